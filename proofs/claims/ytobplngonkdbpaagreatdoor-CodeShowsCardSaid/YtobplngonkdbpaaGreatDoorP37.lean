/- Parts of this claim: AoG, AoH. -/
import Derived.Test.YtobplngonkdbpaaGreatDoorP36
import Derived.Test.YtobplngonkdbpaaGreatDoorP05
import Derived.Test.YtobplngonkdbpaaGreatDoorP25
set_option linter.unusedVariables false
set_option linter.unusedSimpArgs false
/- AoG -/
namespace Go.Proofs.YtobplngonkdbpaaGreatDoor.D
open Go.RowKit
open Go.Proofs.YtobplngonkdbpaaGreatDoor.B
set_option linter.unusedVariables false
set_option linter.unusedSimpArgs false
set_option maxRecDepth 100000 in
theorem spareFunction_c (g : FuL) (w : World) (lo : Nat) (hg : Gl w) (h : WfF w lo g) (hM0 : g.f.env.length <= 16777216) (hM1 : g.f.code.length <= 16777216) :
  Calls Tryz.prog 108 #[.agg g.cells.toArray] w fun e w' => e = .returned (.bool true) /\ Below w.heap.size w w' := by
 obtain ⟨q0, _, e0, s0⟩ := h.1
 obtain ⟨q1, _, e1, s1⟩ := h.2
 have HC0 := Lib.hid (fun W (hb : Below w.heap.size w W) => spareTexts_any g.f.env _ q0 W rfl hM0 (hg.on hb) ((s0.below hb).more hb.size))
 have HC1 := Lib.hid (fun W (hb : Below w.heap.size w W) => spareIns_any g.f.code _ q1 W rfl hM1 ((s1.below hb).more hb.size))
 obtain ⟨M0, hm0⟩ : ∃ n, g.f.env.length = n := ⟨_, rfl⟩
 rw [hm0] at HC0 e0
 obtain ⟨M1, hm1⟩ : ∃ n, g.f.code.length = n := ⟨_, rfl⟩
 rw [hm1] at HC1 e1
 rw [show g.cells.toArray = #[.slice (some ⟨q0, 0, none⟩) M0 (M0 + 64), .string ⟨g.f.param.toArray⟩, .string ⟨g.f.res.toArray⟩, .slice (some ⟨q1, 0, none⟩) M1 (M1 + 64)] by unfold FuL.cells; rw [e0, e1]; rfl]
 obtain ⟨bx, hbx⟩ : ∃ x, w.heap.size = x := ⟨_, rfl⟩
 obtain ⟨W1, hW1⟩ : ∃ X, w.alloc (.cells #[.slice (some ⟨q0, 0, none⟩) M0 (M0 + 64), .string ⟨g.f.param.toArray⟩, .string ⟨g.f.res.toArray⟩, .slice (some ⟨q1, 0, none⟩) M1 (M1 + 64)] 90) = X := ⟨_, rfl⟩
 have HK := Lib.hid (show Below w.heap.size w W1 /\ Blk W1 bx 90 #[.slice (some ⟨q0, 0, none⟩) M0 (M0 + 64), .string ⟨g.f.param.toArray⟩, .string ⟨g.f.res.toArray⟩, .slice (some ⟨q1, 0, none⟩) M1 (M1 + 64)] from ⟨by rw [<- hW1]; exact bal b0 _, by rw [<- hW1, <- hbx]; exact Blk.new w _ _⟩)
 have x0 : W1.cell? ⟨bx, 0, none⟩ = some (.slice (some ⟨q0, 0, none⟩) M0 (M0 + 64)) := (HK.out.2.cell 0).trans rfl
 clear h hg e0 s0 hM0 hm0 e1 s1 hM1 hm1
 go_enter Tryz.func108, Tryz.ntmps108
 go_upto_region 1 with fail
 clear hW1 hbx
 go_wp2_with fail
 (refine (HC0.out _ HK.out.1).mono ?_); rintro e w2 ⟨rfl, hb2⟩
 have x1 : w2.cell? ⟨bx, 3, none⟩ = some (.slice (some ⟨q1, 0, none⟩) M1 (M1 + 64)) := ((HK.out.2.below hb2 HK.out.2.lt).cell 3).trans rfl
 have HB2 := Lib.hid (bl HK.out.1 hb2)
 clear hb2 x0
 go_wp2_with fail
 (refine (HC1.out _ HB2.out).mono ?_); rintro e w3 ⟨rfl, hb3⟩
 go_wp2_with fail
 go_ret
 exact ⟨rfl, bl HB2.out hb3⟩
set_option maxRecDepth 100000 in
theorem spareWait_c (g : WtL) (w : World) (lo : Nat) (hg : Gl w) (h : WfW w lo g) (hM0 : g.w.co.length <= 16777216) :
  Calls Tryz.prog 109 #[.agg g.cells.toArray] w fun e w' => e = .returned (.bool true) /\ Below w.heap.size w w' := by
 obtain ⟨q0, _, e0, s0⟩ := h
 have HC0 := Lib.hid (fun W (hb : Below w.heap.size w W) => spareCos_any g.w.co _ q0 W rfl hM0 ((s0.below hb).more hb.size))
 obtain ⟨M0, hm0⟩ : ∃ n, g.w.co.length = n := ⟨_, rfl⟩
 rw [hm0] at HC0 e0
 rw [show g.cells.toArray = #[.string ⟨g.w.f.toArray⟩, .string ⟨g.w.t.toArray⟩, .slice (some ⟨q0, 0, none⟩) M0 (M0 + 64)] by unfold WtL.cells; rw [e0]; rfl]
 obtain ⟨bx, hbx⟩ : ∃ x, w.heap.size = x := ⟨_, rfl⟩
 obtain ⟨W1, hW1⟩ : ∃ X, w.alloc (.cells #[.string ⟨g.w.f.toArray⟩, .string ⟨g.w.t.toArray⟩, .slice (some ⟨q0, 0, none⟩) M0 (M0 + 64)] 84) = X := ⟨_, rfl⟩
 have HK := Lib.hid (show Below w.heap.size w W1 /\ Blk W1 bx 84 #[.string ⟨g.w.f.toArray⟩, .string ⟨g.w.t.toArray⟩, .slice (some ⟨q0, 0, none⟩) M0 (M0 + 64)] from ⟨by rw [<- hW1]; exact bal b0 _, by rw [<- hW1, <- hbx]; exact Blk.new w _ _⟩)
 have x0 : W1.cell? ⟨bx, 2, none⟩ = some (.slice (some ⟨q0, 0, none⟩) M0 (M0 + 64)) := (HK.out.2.cell 2).trans rfl
 clear hg e0 s0 hM0 hm0
 go_enter Tryz.func109, Tryz.ntmps109
 go_upto_region 1 with fail
 clear hW1 hbx
 go_wp2_with fail
 (refine (HC0.out _ HK.out.1).mono ?_); rintro e w2 ⟨rfl, hb2⟩
 go_wp2_with fail
 go_ret
 exact ⟨rfl, bl HK.out.1 hb2⟩
set_option maxRecDepth 100000 in
set_option maxHeartbeats 2000000 in
theorem spareFunctions_c (D : List FuL) (N g0 lo : Nat) (w : World) (hN : D.length = N) (hl : N <= 16777216) (hg : Gl w) (hA : Sl w w.heap.size 4 (some ⟨g0, 0, none⟩) (N + 64) ((whole mkF D).flatMap FuL.cells)) (hW : ∀ g ∈ D, WfF w lo g) (hM0 : ∀ g ∈ D, g.f.env.length <= 16777216) (hM1 : ∀ g ∈ D, g.f.code.length <= 16777216) :
  Calls Tryz.prog 53 #[.slice (some ⟨g0, 0, none⟩) N (N + 64)] w fun e w' => e = .returned (.bool true) /\ Below w.heap.size w w' := by
 have HA := Lib.hid (And.intro hA hN)
 have HG := Lib.hid hg
 have HC := Lib.hid (fun W (hb : Below w.heap.size w W) g (hm : g ∈ D) => spareFunction_c g W lo (hg.on hb) ((hW g hm).grow hb) (hM0 g hm) (hM1 g hm))
 clear hA hN hg hW hM0 hM1
 go_enter Tryz.func53, Tryz.ntmps53
 go_wp2_with fail
 go_loopg [4] 64 (fun q i wr => ∃ k : Nat, N <= k /\ k <= N + 64 /\ q = N + 64 - k /\ i = .int .i64 k /\ Below w.heap.size w wr)
 case atStart => exact ⟨N, by omega, by omega, by omega, rfl, Below.refl _ _⟩
 case round =>
  obtain ⟨k, hk0, hk, rfl, rfl, hb⟩ := hrel
  by_cases h1 : k < N + 64
  ·
   obtain ⟨b, o, he, hb1, hc1⟩ := (HA.out.1.below hb).at_ (by omega)
   injection he with he
   injection he with he1 he2 _
   subst he1 he2
   have hx : (whole mkF D)[k]? = some (mkF k) := whole_hi (by rw [HA.out.2]; omega) (by rw [HA.out.2]; exact h1)
   have HTX := Lib.hid (fun W (h : Below w.heap.size w W) => T.text_any k w W (by omega) HG.out.tab h)
   have hcs : (mkF k).cells = [.slice none 0 0, .string (T.tmark k), .string ⟨#[]⟩, .slice none 0 0] := rfl
   generalize T.tmark k = m at HTX hcs
   have kc : ∀ j v, ([.slice none 0 0, .string m, .string ⟨#[]⟩, .slice none 0 0] : List Value)[j]? = some v -> j < 4 -> wr.cell? ⟨g0, k * 4 + j, none⟩ = some v := fun j v hv hj => by
    have := hc1 _ _ (show ((whole mkF D).flatMap FuL.cells)[k * 4 + j]? = some v by rw [flat_at FuL.cells 4 (fun _ => rfl) _ _ _ _ hx hj, hcs]; exact hv)
    rwa [Nat.zero_add] at this
   have d0 : wr.cell? ⟨g0, k * 4, none⟩ = some (.slice none 0 0) := kc 0 _ rfl (by decide)
   have d1 : wr.cell? ⟨g0, k * 4 + 1, none⟩ = some (.string m) := kc 1 _ rfl (by decide)
   have d2 : wr.cell? ⟨g0, k * 4 + 2, none⟩ = some (.string ⟨#[]⟩) := kc 2 _ rfl (by decide)
   have d3 : wr.cell? ⟨g0, k * 4 + 3, none⟩ = some (.slice none 0 0) := kc 3 _ rfl (by decide)
   clear hb1 hc1 hx hcs kc
   go_upto_region 6 with fail
   obtain ⟨W5, hW5⟩ : ∃ X, wr.alloc (.cells #[.slice none 0 0, .string m, .string ⟨#[]⟩, .slice none 0 0] 90) = X := ⟨_, rfl⟩
   rw [hW5]
   have hb5 : Below w.heap.size w W5 := by rw [<- hW5]; exact bal hb _
   have k5 : Blk W5 wr.heap.size 90 #[.slice none 0 0, .string m, .string ⟨#[]⟩, .slice none 0 0] := by rw [<- hW5]; exact Blk.new _ _ _
   obtain ⟨bx, hbx⟩ : ∃ x, wr.heap.size = x := ⟨_, rfl⟩
   rw [hbx] at k5 ⊢
   have HB5 := Lib.hid (And.intro hb5 k5)
   clear hW5 hbx hb hb5 k5 d0 d1 d2 d3
   refine wp_region_held_drew (S := (fun W' => W'.cell? ⟨bx, 1, none⟩ = some (.string m) /\ W'.cell? ⟨bx, 0, none⟩ = some (.slice none 0 0) /\ W'.cell? ⟨bx, 3, none⟩ = some (.slice none 0 0))) (by kernel_rfl) ?ss1 (fun hHeld => ?rr1)
   case ss1 => (try dsimp only); exact ⟨((HB5.out.2.drewN 1).cell 1).trans rfl, ((HB5.out.2.drewN 1).cell 0).trans rfl, ((HB5.out.2.drewN 1).cell 3).trans rfl⟩
   refine rgt 0 24 rfl rfl hHeld ?_
   try simp only [Act.put, rg1, rg2, rg3]
   refine rgt 1 25 rfl rfl hHeld ?_
   try simp only [Act.put, rg1, rg2, rg3]
   refine rgt 2 26 rfl rfl hHeld ?_
   try simp only [Act.put, rg1, rg2, rg3]
   refine rgc 3 (some 27) rfl (fun K hK => ?_)
   go_simp
   ((refine (HTX.out _ (bdr HB5.out.1 1)).mono ?_); rintro e w6 ⟨rfl, hb6⟩; have k6 := (HB5.out.2.drewN 1).below hb6 HB5.out.2.lt)
   refine hK.out _ _ ?ss5 (fun hHeld2 => ?rr5)
   case ss5 => (try dsimp only); exact ⟨(k6.cell 1).trans rfl, (k6.cell 0).trans rfl, (k6.cell 3).trans rfl⟩
   clear hK K
   clear hHeld
   have hHeld := hHeld2
   clear hHeld2
   try simp only [Act.put, rg1, rg2, rg3]
   refine rgt 4 28 rfl rfl hHeld ?_
   try simp only [Act.put, rg1, rg2, rg3]
   refine rgt 5 29 rfl rfl hHeld ?_
   try simp only [Act.put, rg1, rg2, rg3]
   refine rgt 6 30 rfl rfl hHeld ?_
   try simp only [Act.put, rg1, rg2, rg3]
   refine rgt 7 31 rfl rfl hHeld ?_
   try simp only [Act.put, rg1, rg2, rg3]
   refine rgt 8 32 rfl rfl hHeld ?_
   try simp only [Act.put, rg1, rg2, rg3]
   refine rgt 9 33 rfl rfl hHeld ?_
   try simp only [Act.put, rg1, rg2, rg3]
   refine rgt 10 34 rfl rfl hHeld ?_
   try simp only [Act.put, rg1, rg2, rg3]
   refine rgt 11 35 rfl rfl hHeld ?_
   try simp only [Act.put, rg1, rg2, rg3]
   refine rgt 12 36 rfl rfl hHeld ?_
   try simp only [Act.put, rg1, rg2, rg3]
   refine rgt 13 37 rfl rfl hHeld ?_
   try simp only [Act.put, rg1, rg2, rg3]
   refine rgt 14 38 rfl rfl hHeld ?_
   try simp only [Act.put, rg1, rg2, rg3]
   refine rgt 15 39 rfl rfl hHeld ?_
   try simp only [Act.put, rg1, rg2, rg3]
   refine rgt 16 40 rfl rfl hHeld ?_
   try simp only [Act.put, rg1, rg2, rg3]
   refine rgt 17 41 rfl rfl hHeld ?_
   try simp only [Act.put, rg1, rg2, rg3]
   refine wpAnyH_done (by kernel_rfl) ?_ _
   go_wp2_with fail
   go_roundg (N + 64 - (k + 1))
   case measure => omega
   case rel => exact ⟨k + 1, by omega, by omega, rfl, by go_num, bl (bdr HB5.out.1 1) hb6⟩
  ·
   go_wp2_with fail
   go_loopg [6] N (fun q i W => ∃ k : Nat, k <= N /\ q = N - k /\ i = .int .i64 k /\ Below w.heap.size w W)
   case atStart => exact ⟨0, by omega, by omega, rfl, hb⟩
   clear hb
   case round =>
    obtain ⟨j, hj, rfl, rfl, hb⟩ := hrel
    by_cases h2 : j < N
    ·
     obtain ⟨x, hx⟩ : ∃ x, D[j]? = some x := ⟨_, List.getElem?_eq_getElem (by rw [HA.out.2]; exact h2)⟩
     have hm := List.mem_of_getElem? hx
     obtain ⟨b, o, he, hb1, hc1⟩ := (HA.out.1.below hb).at_ (by omega)
     injection he with he
     injection he with he1 he2 _
     subst he1 he2
     have kc : ∀ i v, (FuL.cells x)[i]? = some v -> i < 4 -> wr.cell? ⟨g0, j * 4 + i, none⟩ = some v := fun i v hv hi => by
      have := hc1 _ _ (show ((whole mkF D).flatMap FuL.cells)[j * 4 + i]? = some v by rw [flat_at FuL.cells 4 (fun _ => rfl) _ _ _ _ ((whole_lo (by rw [HA.out.2]; exact h2)).trans hx) hi]; exact hv)
      rwa [Nat.zero_add] at this
     have d0 : wr.cell? ⟨g0, j * 4, none⟩ = some (x.ev) := kc 0 _ rfl (by decide)
     have d1 : wr.cell? ⟨g0, j * 4 + 1, none⟩ = some (strV x.f.param) := kc 1 _ rfl (by decide)
     have d2 : wr.cell? ⟨g0, j * 4 + 2, none⟩ = some (strV x.f.res) := kc 2 _ rfl (by decide)
     have d3 : wr.cell? ⟨g0, j * 4 + 3, none⟩ = some (x.cv) := kc 3 _ rfl (by decide)
     have HCALL := Lib.hid (show Calls Tryz.prog 108 #[.agg #[x.ev, strV x.f.param, strV x.f.res, x.cv]] wr fun e w' => e = .returned (.bool true) /\ Below wr.heap.size wr w' from HC.out _ hb x hm)
     clear kc hc1 hb1 hx hm
     go_wp2_with fail
     (refine HCALL.out.mono ?_); rintro e w3 ⟨rfl, hb3⟩
     go_wp2_with fail
     go_roundg (N - (j + 1))
     case measure => omega
     case rel => exact ⟨j + 1, by omega, rfl, by go_num, bl hb hb3⟩
    ·
     go_wp2_with fail
     go_ret
     exact ⟨rfl, hb⟩
set_option maxRecDepth 100000 in
set_option maxHeartbeats 2000000 in
theorem spareWaits_c (D : List WtL) (N g0 lo : Nat) (w : World) (hN : D.length = N) (hl : N <= 16777216) (hg : Gl w) (hA : Sl w w.heap.size 3 (some ⟨g0, 0, none⟩) (N + 64) ((whole mkW D).flatMap WtL.cells)) (hW : ∀ g ∈ D, WfW w lo g) (hM0 : ∀ g ∈ D, g.w.co.length <= 16777216) :
  Calls Tryz.prog 54 #[.slice (some ⟨g0, 0, none⟩) N (N + 64)] w fun e w' => e = .returned (.bool true) /\ Below w.heap.size w w' := by
 have HA := Lib.hid (And.intro hA hN)
 have HG := Lib.hid hg
 have HC := Lib.hid (fun W (hb : Below w.heap.size w W) g (hm : g ∈ D) => spareWait_c g W lo (hg.on hb) ((hW g hm).grow hb) (hM0 g hm))
 clear hA hN hg hW hM0
 go_enter Tryz.func54, Tryz.ntmps54
 go_wp2_with fail
 go_loopg [4] 64 (fun q i wr => ∃ k : Nat, N <= k /\ k <= N + 64 /\ q = N + 64 - k /\ i = .int .i64 k /\ Below w.heap.size w wr)
 case atStart => exact ⟨N, by omega, by omega, by omega, rfl, Below.refl _ _⟩
 case round =>
  obtain ⟨k, hk0, hk, rfl, rfl, hb⟩ := hrel
  by_cases h1 : k < N + 64
  ·
   obtain ⟨b, o, he, hb1, hc1⟩ := (HA.out.1.below hb).at_ (by omega)
   injection he with he
   injection he with he1 he2 _
   subst he1 he2
   have hx : (whole mkW D)[k]? = some (mkW k) := whole_hi (by rw [HA.out.2]; omega) (by rw [HA.out.2]; exact h1)
   have HTX := Lib.hid (fun W (h : Below w.heap.size w W) => T.text_any k w W (by omega) HG.out.tab h)
   have hcs : (mkW k).cells = [.string (T.tmark k), .string ⟨#[]⟩, .slice none 0 0] := rfl
   generalize T.tmark k = m at HTX hcs
   have kc : ∀ j v, ([.string m, .string ⟨#[]⟩, .slice none 0 0] : List Value)[j]? = some v -> j < 3 -> wr.cell? ⟨g0, k * 3 + j, none⟩ = some v := fun j v hv hj => by
    have := hc1 _ _ (show ((whole mkW D).flatMap WtL.cells)[k * 3 + j]? = some v by rw [flat_at WtL.cells 3 (fun _ => rfl) _ _ _ _ hx hj, hcs]; exact hv)
    rwa [Nat.zero_add] at this
   have d0 : wr.cell? ⟨g0, k * 3, none⟩ = some (.string m) := kc 0 _ rfl (by decide)
   have d1 : wr.cell? ⟨g0, k * 3 + 1, none⟩ = some (.string ⟨#[]⟩) := kc 1 _ rfl (by decide)
   have d2 : wr.cell? ⟨g0, k * 3 + 2, none⟩ = some (.slice none 0 0) := kc 2 _ rfl (by decide)
   clear hb1 hc1 hx hcs kc
   go_upto_region 6 with fail
   obtain ⟨W5, hW5⟩ : ∃ X, wr.alloc (.cells #[.string m, .string ⟨#[]⟩, .slice none 0 0] 84) = X := ⟨_, rfl⟩
   rw [hW5]
   have hb5 : Below w.heap.size w W5 := by rw [<- hW5]; exact bal hb _
   have k5 : Blk W5 wr.heap.size 84 #[.string m, .string ⟨#[]⟩, .slice none 0 0] := by rw [<- hW5]; exact Blk.new _ _ _
   obtain ⟨bx, hbx⟩ : ∃ x, wr.heap.size = x := ⟨_, rfl⟩
   rw [hbx] at k5 ⊢
   have HB5 := Lib.hid (And.intro hb5 k5)
   clear hW5 hbx hb hb5 k5 d0 d1 d2
   refine wp_region_held_drew (S := (fun W' => W'.cell? ⟨bx, 0, none⟩ = some (.string m) /\ W'.cell? ⟨bx, 2, none⟩ = some (.slice none 0 0))) (by kernel_rfl) ?ss20 (fun hHeld => ?rr20)
   case ss20 => (try dsimp only); exact ⟨((HB5.out.2.drewN 1).cell 0).trans rfl, ((HB5.out.2.drewN 1).cell 2).trans rfl⟩
   refine rgt 0 24 rfl rfl hHeld ?_
   try simp only [Act.put, rg1, rg2, rg3]
   refine rgt 1 25 rfl rfl hHeld ?_
   try simp only [Act.put, rg1, rg2, rg3]
   refine rgt 2 26 rfl rfl hHeld ?_
   try simp only [Act.put, rg1, rg2, rg3]
   refine rgc 3 (some 27) rfl (fun K hK => ?_)
   go_simp
   ((refine (HTX.out _ (bdr HB5.out.1 1)).mono ?_); rintro e w6 ⟨rfl, hb6⟩; have k6 := (HB5.out.2.drewN 1).below hb6 HB5.out.2.lt)
   refine hK.out _ _ ?ss24 (fun hHeld2 => ?rr24)
   case ss24 => (try dsimp only); exact ⟨(k6.cell 0).trans rfl, (k6.cell 2).trans rfl⟩
   clear hK K
   clear hHeld
   have hHeld := hHeld2
   clear hHeld2
   try simp only [Act.put, rg1, rg2, rg3]
   refine rgt 4 28 rfl rfl hHeld ?_
   try simp only [Act.put, rg1, rg2, rg3]
   refine rgt 5 29 rfl rfl hHeld ?_
   try simp only [Act.put, rg1, rg2, rg3]
   refine rgt 6 30 rfl rfl hHeld ?_
   try simp only [Act.put, rg1, rg2, rg3]
   refine rgt 7 31 rfl rfl hHeld ?_
   try simp only [Act.put, rg1, rg2, rg3]
   refine rgt 8 32 rfl rfl hHeld ?_
   try simp only [Act.put, rg1, rg2, rg3]
   refine rgt 9 33 rfl rfl hHeld ?_
   try simp only [Act.put, rg1, rg2, rg3]
   refine rgt 10 34 rfl rfl hHeld ?_
   try simp only [Act.put, rg1, rg2, rg3]
   refine rgt 11 35 rfl rfl hHeld ?_
   try simp only [Act.put, rg1, rg2, rg3]
   refine wpAnyH_done (by kernel_rfl) ?_ _
   go_wp2_with fail
   go_roundg (N + 64 - (k + 1))
   case measure => omega
   case rel => exact ⟨k + 1, by omega, by omega, rfl, by go_num, bl (bdr HB5.out.1 1) hb6⟩
  ·
   go_wp2_with fail
   go_loopg [6] N (fun q i W => ∃ k : Nat, k <= N /\ q = N - k /\ i = .int .i64 k /\ Below w.heap.size w W)
   case atStart => exact ⟨0, by omega, by omega, rfl, hb⟩
   clear hb
   case round =>
    obtain ⟨j, hj, rfl, rfl, hb⟩ := hrel
    by_cases h2 : j < N
    ·
     obtain ⟨x, hx⟩ : ∃ x, D[j]? = some x := ⟨_, List.getElem?_eq_getElem (by rw [HA.out.2]; exact h2)⟩
     have hm := List.mem_of_getElem? hx
     obtain ⟨b, o, he, hb1, hc1⟩ := (HA.out.1.below hb).at_ (by omega)
     injection he with he
     injection he with he1 he2 _
     subst he1 he2
     have kc : ∀ i v, (WtL.cells x)[i]? = some v -> i < 3 -> wr.cell? ⟨g0, j * 3 + i, none⟩ = some v := fun i v hv hi => by
      have := hc1 _ _ (show ((whole mkW D).flatMap WtL.cells)[j * 3 + i]? = some v by rw [flat_at WtL.cells 3 (fun _ => rfl) _ _ _ _ ((whole_lo (by rw [HA.out.2]; exact h2)).trans hx) hi]; exact hv)
      rwa [Nat.zero_add] at this
     have d0 : wr.cell? ⟨g0, j * 3, none⟩ = some (strV x.w.f) := kc 0 _ rfl (by decide)
     have d1 : wr.cell? ⟨g0, j * 3 + 1, none⟩ = some (strV x.w.t) := kc 1 _ rfl (by decide)
     have d2 : wr.cell? ⟨g0, j * 3 + 2, none⟩ = some (x.cv) := kc 2 _ rfl (by decide)
     have HCALL := Lib.hid (show Calls Tryz.prog 109 #[.agg #[strV x.w.f, strV x.w.t, x.cv]] wr fun e w' => e = .returned (.bool true) /\ Below wr.heap.size wr w' from HC.out _ hb x hm)
     clear kc hc1 hb1 hx hm
     go_wp2_with fail
     (refine HCALL.out.mono ?_); rintro e w3 ⟨rfl, hb3⟩
     go_wp2_with fail
     go_roundg (N - (j + 1))
     case measure => omega
     case rel => exact ⟨j + 1, by omega, rfl, by go_num, bl hb hb3⟩
    ·
     go_wp2_with fail
     go_ret
     exact ⟨rfl, hb⟩
end Go.Proofs.YtobplngonkdbpaaGreatDoor.D
/- AoH -/
namespace Go.Proofs.YtobplngonkdbpaaGreatDoor.D
open Go.RowKit
open Go.Proofs.YtobplngonkdbpaaGreatDoor.B
set_option linter.unusedVariables false
set_option linter.unusedSimpArgs false
/-- Lists of at most so many. -/
structure C16 (L : CoL) : Prop where
 f : L.fns.length <= 16777216
 c : L.casts.length <= 16777216
 n : L.nums.length <= 16777216
 t : L.texts.length <= 16777216
 y : L.types.length <= 16777216
 fe : ∀ g ∈ L.fns, g.f.env.length <= 16777216
 fc : ∀ g ∈ L.fns, g.f.code.length <= 16777216
 co : ∀ g ∈ L.casts, g.w.co.length <= 16777216
theorem C16.cb {L : CoL} (h : C16 L) : CB L :=
 ⟨by have := h.f; omega, by have := h.c; omega, by have := h.n; omega, by have := h.t; omega, by have := h.y; omega, fun g hg => by have := h.fe g hg; omega, fun g hg => by have := h.fc g hg; omega, fun g hg => by have := h.co g hg; omega⟩
/-- Code that came out of WideCode. -/
structure WC (W : World) (lo : Nat) (L : CoL) : Prop where
 f : Wr W 4 L.fv L.fns.length lo ((whole mkF L.fns).flatMap FuL.cells)
 c : Wr W 3 L.cv L.casts.length lo ((whole mkW L.casts).flatMap WtL.cells)
 n : Wr W 1 L.nv L.nums.length lo (numC (whole mkL L.nums))
 t : Wr W 1 L.tv L.texts.length lo (envC (whole mkT L.texts))
 y : Wr W 1 L.yv L.types.length lo (envC (whole mkT L.types))
 fe : ∀ g ∈ L.fns, WfF W lo g
 co : ∀ g ∈ L.casts, WfW W lo g
theorem WC.grow {W W' : World} {lo : Nat} {L : CoL} (h : WC W lo L) (hb : Below W.heap.size W W') : WC W' lo L :=
 ⟨h.f.grow hb, h.c.grow hb, h.n.grow hb, h.t.grow hb, h.y.grow hb, fun g hg => (h.fe g hg).grow hb, fun g hg => (h.co g hg).grow hb⟩
theorem m64 {n : Nat} (h : n <= 16777216) : n + 64 <= maxLen := by unfold maxLen; omega
theorem WC.cr {W : World} {lo : Nat} {L : CoL} (h : WC W lo L) (hB : C16 L) : CR W L := by
 refine ⟨h.f.wd.rs fu4 rfl (m64 hB.f), h.c.wd.rs wt3 rfl (m64 hB.c), ?_, ?_, ?_, fun g hg => ?_, fun g hg => ?_, fun g hg => ?_⟩
 · have := h.n.wd; unfold numC at this ⊢; rw [map1] at this ⊢; exact this.rs (fun _ => rfl) rfl (m64 hB.n)
 · have := h.t.wd; unfold envC at this ⊢; rw [map1] at this ⊢; exact this.rs (fun _ => rfl) rfl (m64 hB.t)
 · have := h.y.wd; unfold envC at this ⊢; rw [map1] at this ⊢; exact this.rs (fun _ => rfl) rfl (m64 hB.y)
 · have := (h.fe g hg).1.wd; unfold envC at this ⊢; rw [map1] at this ⊢; exact this.rs (fun _ => rfl) rfl (m64 (hB.fe g hg))
 · exact (h.fe g hg).2.wd.rs in3 rfl (m64 (hB.fc g hg))
 · exact (Wr.wd (h.co g hg)).rs ndl7 rfl (m64 (hB.co g hg))
/-- The state of the copying. -/
structure WS (w W : World) (g0 : Nat) (cs : Array Value) (fs : List FuL) (ws : List WtL) (rows : List Rw) : Prop where
 blk : Blk W g0 27 cs
 nil : Blk W (g0 + 1) 27 nilV
 bel : Below w.heap.size w W
 eq : w.heap.size = g0
 fe : ∀ g ∈ fs, WfF W (g0 + 2) g
 co : ∀ g ∈ ws, WfW W (g0 + 2) g
 own : ∀ r ∈ rows, Wr W r.sz r.v r.n (g0 + 2) r.xs
section
variable {w W W' : World} {g0 : Nat} {cs : Array Value} {fs : List FuL} {ws : List WtL} {rows : List Rw}
theorem WS.call (h : WS w W g0 cs fs ws rows) (hb : Below W.heap.size W W') : WS w W' g0 cs fs ws rows :=
 ⟨h.blk.below hb h.blk.lt, h.nil.below hb h.nil.lt, bl h.bel hb, h.eq, fun g hg => (h.fe g hg).grow hb, fun g hg => (h.co g hg).grow hb, fun r hr => (h.own r hr).grow hb⟩
theorem WS.set (h : WS w W g0 cs fs ws rows) (j : Nat) (v : Value) : WS w (W.setCell ⟨g0, j, none⟩ v) g0 (cs.setIfInBounds j v) fs ws rows := by
 have hbut := but_set (C := fun k => k = g0) (But.refl _ W) (b := g0) (i := j) rfl v
 exact ⟨h.blk.set_ j v, h.nil.far (show g0 + 1 ≠ g0 by omega) v, below_set h.bel (by have := h.eq; omega) v, h.eq, fun g hg => (h.fe g hg).but hbut (fun k hk => by omega), fun g hg => (h.co g hg).but hbut (fun k hk => by omega), fun r hr => (h.own r hr).but hbut (fun k hk => by omega)⟩
theorem WS.row (h : WS w W g0 cs fs ws rows) {r : Rw} (hr : Wr W r.sz r.v r.n (g0 + 2) r.xs) : WS w W g0 cs fs ws (r :: rows) :=
 ⟨h.blk, h.nil, h.bel, h.eq, h.fe, h.co, fun x hx => by
  rcases List.mem_cons.1 hx with rfl | hx
  · exact hr
  · exact h.own x hx⟩
theorem WS.big (h : WS w W g0 cs fs ws rows) : g0 + 2 <= W.heap.size := by have := h.nil.lt; omega
theorem WS.fns (h : WS w W g0 cs [] ws rows) {D : List FuL} (hD : ∀ g ∈ D, WfF W (g0 + 2) g) : WS w W g0 cs D ws rows :=
 ⟨h.blk, h.nil, h.bel, h.eq, hD, h.co, h.own⟩
theorem WS.wts (h : WS w W g0 cs fs [] rows) {D : List WtL} (hD : ∀ g ∈ D, WfW W (g0 + 2) g) : WS w W g0 cs fs D rows :=
 ⟨h.blk, h.nil, h.bel, h.eq, h.fe, hD, h.own⟩
end
set_option maxRecDepth 100000 in
set_option maxHeartbeats 2000000 in
theorem wideCode_c (L : CoL) (w : World) (hg : Gl w) (h : CR w L) (hB : C16 L) :
  Calls Tryz.prog 8 #[.agg L.vals.toArray] w fun e w' => ∃ L' : CoL, e = .returned (.agg L'.vals.toArray) /\ L'.code = L.code /\ WC w' w.heap.size L' /\ Below w.heap.size w w' := by
 obtain ⟨A1, c1, e1, hc1, hd1, s1⟩ := h.f.sl
 obtain ⟨A2, c2, e2, hc2, hd2, s2⟩ := h.c.sl
 obtain ⟨A3, c3, e3, hc3, hd3, s3⟩ := h.n.sl
 obtain ⟨A4, c4, e4, hc4, hd4, s4⟩ := h.t.sl
 obtain ⟨A5, c5, e5, hc5, hd5, s5⟩ := h.y.sl
 obtain ⟨n1, hn1⟩ : ∃ n, L.fns.length = n := ⟨_, rfl⟩
 obtain ⟨n2, hn2⟩ : ∃ n, L.casts.length = n := ⟨_, rfl⟩
 obtain ⟨n3, hn3⟩ : ∃ n, L.nums.length = n := ⟨_, rfl⟩
 obtain ⟨n4, hn4⟩ : ∃ n, L.texts.length = n := ⟨_, rfl⟩
 obtain ⟨n5, hn5⟩ : ∃ n, L.types.length = n := ⟨_, rfl⟩
 rw [hn1] at e1 s1
 rw [hn2] at e2 s2
 rw [hn3] at e3 s3
 rw [hn4] at e4 s4
 rw [hn5] at e5 s5
 rw [show L.vals.toArray = #[.slice A1 n1 c1, .slice A2 n2 c2, .slice A3 n3 c3, .slice A4 n4 c4, .slice A5 n5 c5] by unfold CoL.vals; rw [e1, e2, e3, e4, e5]]
 have HF := Lib.hid (fun W (hb : Below w.heap.size w W) => (wideFunctions_c L.fns n1 A1 c1 W hn1 (by have := hB.f; omega) (hg.on hb) ((s1.below hb).more hb.size) (fun g hm => (h.fe g hm).grow hb) hB.fe (fun g hm => (h.fc g hm).grow hb) hB.fc).mono (show ∀ e w', _ -> ∃ D1 : List FuL, ∃ q, W.heap.size <= q /\ e = .returned (.slice (some ⟨q, 0, none⟩) n1 (n1 + 64)) /\ D1.map (·.f) = L.fns.map (·.f) /\ (∀ g ∈ D1, WfF w' W.heap.size g) /\ Wr w' 4 (.slice (some ⟨q, 0, none⟩) n1 (n1 + 64)) n1 W.heap.size ((whole mkF D1).flatMap FuL.cells) /\ Below W.heap.size W w' from fun e w' h => by
  obtain ⟨h1, ⟨D, h2, h3, h4⟩, h5⟩ := h
  exact ⟨D, _, Nat.le_refl _, h1, h2, fun g hm => (h3 g hm).low (by omega), ⟨_, Nat.le_refl _, rfl, h4⟩, h5⟩))
 have HW := Lib.hid (fun W (hb : Below w.heap.size w W) => (wideWaits_c L.casts n2 A2 c2 W hn2 (by have := hB.c; omega) (hg.on hb) ((s2.below hb).more hb.size) (fun g hm => (h.co g hm).grow hb) hB.co).mono (show ∀ e w', _ -> ∃ D2 : List WtL, ∃ q, W.heap.size <= q /\ e = .returned (.slice (some ⟨q, 0, none⟩) n2 (n2 + 64)) /\ D2.map (·.w) = L.casts.map (·.w) /\ (∀ g ∈ D2, WfW w' W.heap.size g) /\ Wr w' 3 (.slice (some ⟨q, 0, none⟩) n2 (n2 + 64)) n2 W.heap.size ((whole mkW D2).flatMap WtL.cells) /\ Below W.heap.size W w' from fun e w' h => by
  obtain ⟨h1, ⟨D, h2, h3, h4⟩, h5⟩ := h
  exact ⟨D, _, Nat.le_refl _, h1, h2, fun g hm => (h3 g hm).low (by omega), ⟨_, Nat.le_refl _, rfl, h4⟩, h5⟩))
 have HN := Lib.hid (fun W (hb : Below w.heap.size w W) => (wideLongs_any L.nums n3 A3 c3 W hn3 (by have := hB.n; omega) ((s3.below hb).more hb.size)).mono (show ∀ e w', _ -> ∃ q, W.heap.size <= q /\ e = .returned (.slice (some ⟨q, 0, none⟩) n3 (n3 + 64)) /\ Wr w' 1 (.slice (some ⟨q, 0, none⟩) n3 (n3 + 64)) n3 W.heap.size (numC (whole mkL L.nums)) /\ Below W.heap.size W w' from fun e w' h => ⟨_, Nat.le_refl _, h.1, ⟨_, Nat.le_refl _, rfl, h.2.1⟩, h.2.2⟩))
 have HT := Lib.hid (fun W (hb : Below w.heap.size w W) => (wideTexts_any L.texts n4 A4 c4 W hn4 (by have := hB.t; omega) (hg.on hb) ((s4.below hb).more hb.size)).mono (show ∀ e w', _ -> ∃ q, W.heap.size <= q /\ e = .returned (.slice (some ⟨q, 0, none⟩) n4 (n4 + 64)) /\ Wr w' 1 (.slice (some ⟨q, 0, none⟩) n4 (n4 + 64)) n4 W.heap.size (envC (whole mkT L.texts)) /\ Below W.heap.size W w' from fun e w' h => ⟨_, Nat.le_refl _, h.1, ⟨_, Nat.le_refl _, rfl, h.2.1⟩, h.2.2⟩))
 have HY := Lib.hid (fun W (hb : Below w.heap.size w W) => (wideTexts_any L.types n5 A5 c5 W hn5 (by have := hB.y; omega) (hg.on hb) ((s5.below hb).more hb.size)).mono (show ∀ e w', _ -> ∃ q, W.heap.size <= q /\ e = .returned (.slice (some ⟨q, 0, none⟩) n5 (n5 + 64)) /\ Wr w' 1 (.slice (some ⟨q, 0, none⟩) n5 (n5 + 64)) n5 W.heap.size (envC (whole mkT L.types)) /\ Below W.heap.size W w' from fun e w' h => ⟨_, Nat.le_refl _, h.1, ⟨_, Nat.le_refl _, rfl, h.2.1⟩, h.2.2⟩))
 have HNN := Lib.hid (And.intro hn1 (And.intro hn2 (And.intro hn3 (And.intro hn4 hn5))))
 obtain ⟨g0, hg0⟩ : ∃ x, w.heap.size = x := ⟨_, rfl⟩
 obtain ⟨W1, hW1⟩ : ∃ W1, ((w.alloc (.cells #[.slice A1 n1 c1, .slice A2 n2 c2, .slice A3 n3 c3, .slice A4 n4 c4, .slice A5 n5 c5] 27)).alloc (.cells #[.slice none 0 0, .slice none 0 0, .slice none 0 0, .slice none 0 0, .slice none 0 0] 27)) = W1 := ⟨_, rfl⟩
 have hb1 : Below w.heap.size w W1 := by rw [<- hW1]; exact bal (bal b0 _) _
 have k1 : Blk W1 g0 27 #[.slice A1 n1 c1, .slice A2 n2 c2, .slice A3 n3 c3, .slice A4 n4 c4, .slice A5 n5 c5] := by rw [<- hW1, <- hg0]; exact (Blk.new w _ _).alloc _
 have k2 : Blk W1 (g0 + 1) 27 nilV := by
  rw [<- hW1, <- hg0]
  have := Blk.new (w.alloc (.cells #[.slice A1 n1 c1, .slice A2 n2 c2, .slice A3 n3 c3, .slice A4 n4 c4, .slice A5 n5 c5] 27)) 27 #[.slice none 0 0, .slice none 0 0, .slice none 0 0, .slice none 0 0, .slice none 0 0]
  simp only [World.size_alloc] at this
  exact this
 have x0 : W1.cell? ⟨g0, 0, none⟩ = some (.slice A1 n1 c1) := (k1.cell 0).trans rfl
 have HS0 := Lib.hid (show WS w W1 g0 #[.slice A1 n1 c1, .slice A2 n2 c2, .slice A3 n3 c3, .slice A4 n4 c4, .slice A5 n5 c5] [] [] [] from ⟨k1, k2, hb1, hg0, (fun g hg => by cases hg), (fun g hg => by cases hg), (fun r hr => by cases hr)⟩)
 clear h hB hg e1 e2 e3 e4 e5 s1 s2 s3 s4 s5 hn1 hn2 hn3 hn4 hn5 hc1 hc2 hc3 hc4 hc5 hd1 hd2 hd3 hd4 hd5 hb1 k1 k2
 go_enter Tryz.func8, Tryz.ntmps8
 go_upto_region 1 with fail
 clear hW1 hg0
 go_wp2_with fail
 (refine (HF.out _ HS0.out.bel).mono ?_); rintro ev w2 ⟨D1, q1, hl, rfl, hm1, hq1, ho1, hb2⟩
 have hs := HS0.out.call hb2
 have hs := hs.fns (D := D1) fun g hg => (hq1 g hg).low HS0.out.big
 have hs := hs.row (r := ⟨90, 4, .slice (some ⟨q1, 0, none⟩) n1 (n1 + 64), n1, (whole mkF D1).flatMap FuL.cells⟩) (ho1.low HS0.out.big)
 have y0 : w2.cell? ⟨g0, 0, none⟩ = some (.slice A1 n1 c1) := (hs.blk.cell 0).trans rfl
 have z0 := hs.blk.frozen 0
 have hs := hs.set 0 (.slice (some ⟨q1, 0, none⟩) n1 (n1 + 64))
 have HM1 := Lib.hid hm1
 clear hb2 hl ho1 hq1 hm1 x0
 go_upto_region 2 with fail
 obtain ⟨V1, hV⟩ : ∃ X, w2.setCell ⟨g0, 0, none⟩ (.slice (some ⟨q1, 0, none⟩) n1 (n1 + 64)) = X := ⟨_, rfl⟩
 rw [hV] at hs ⊢
 have HS1 := Lib.hid (show WS w V1 g0 #[.slice (some ⟨q1, 0, none⟩) n1 (n1 + 64), .slice A2 n2 c2, .slice A3 n3 c3, .slice A4 n4 c4, .slice A5 n5 c5] D1 [] [⟨90, 4, .slice (some ⟨q1, 0, none⟩) n1 (n1 + 64), n1, (whole mkF D1).flatMap FuL.cells⟩] from hs)
 have x1 : V1.cell? ⟨g0, 1, none⟩ = some (.slice A2 n2 c2) := (hs.blk.cell 1).trans rfl
 clear hs hV y0 z0
 go_wp2_with fail
 (refine (HW.out _ HS1.out.bel).mono ?_); rintro ev w3 ⟨D2, q2, hl, rfl, hm2, hq2, ho2, hb2⟩
 have hs := HS1.out.call hb2
 have hs := hs.wts (D := D2) fun g hg => (hq2 g hg).low HS1.out.big
 have hs := hs.row (r := ⟨84, 3, .slice (some ⟨q2, 0, none⟩) n2 (n2 + 64), n2, (whole mkW D2).flatMap WtL.cells⟩) (ho2.low HS1.out.big)
 have y0 : w3.cell? ⟨g0, 1, none⟩ = some (.slice A2 n2 c2) := (hs.blk.cell 1).trans rfl
 have z0 := hs.blk.frozen 1
 have hs := hs.set 1 (.slice (some ⟨q2, 0, none⟩) n2 (n2 + 64))
 have HM2 := Lib.hid hm2
 clear hb2 hl ho2 hq2 hm2 x1
 go_upto_region 3 with fail
 obtain ⟨V2, hV⟩ : ∃ X, w3.setCell ⟨g0, 1, none⟩ (.slice (some ⟨q2, 0, none⟩) n2 (n2 + 64)) = X := ⟨_, rfl⟩
 rw [hV] at hs ⊢
 have HS2 := Lib.hid (show WS w V2 g0 #[.slice (some ⟨q1, 0, none⟩) n1 (n1 + 64), .slice (some ⟨q2, 0, none⟩) n2 (n2 + 64), .slice A3 n3 c3, .slice A4 n4 c4, .slice A5 n5 c5] D1 D2 [⟨84, 3, .slice (some ⟨q2, 0, none⟩) n2 (n2 + 64), n2, (whole mkW D2).flatMap WtL.cells⟩, ⟨90, 4, .slice (some ⟨q1, 0, none⟩) n1 (n1 + 64), n1, (whole mkF D1).flatMap FuL.cells⟩] from hs)
 have x2 : V2.cell? ⟨g0, 2, none⟩ = some (.slice A3 n3 c3) := (hs.blk.cell 2).trans rfl
 clear hs hV y0 z0
 go_wp2_with fail
 (refine (HN.out _ HS2.out.bel).mono ?_); rintro ev w4 ⟨q3, hl, rfl, ho3, hb2⟩
 have hs := HS2.out.call hb2
 have hs := hs.row (r := ⟨2, 1, .slice (some ⟨q3, 0, none⟩) n3 (n3 + 64), n3, numC (whole mkL L.nums)⟩) (ho3.low HS2.out.big)
 have y0 : w4.cell? ⟨g0, 2, none⟩ = some (.slice A3 n3 c3) := (hs.blk.cell 2).trans rfl
 have z0 := hs.blk.frozen 2
 have hs := hs.set 2 (.slice (some ⟨q3, 0, none⟩) n3 (n3 + 64))
 clear hb2 hl ho3  x2
 go_upto_region 4 with fail
 obtain ⟨V3, hV⟩ : ∃ X, w4.setCell ⟨g0, 2, none⟩ (.slice (some ⟨q3, 0, none⟩) n3 (n3 + 64)) = X := ⟨_, rfl⟩
 rw [hV] at hs ⊢
 have HS3 := Lib.hid (show WS w V3 g0 #[.slice (some ⟨q1, 0, none⟩) n1 (n1 + 64), .slice (some ⟨q2, 0, none⟩) n2 (n2 + 64), .slice (some ⟨q3, 0, none⟩) n3 (n3 + 64), .slice A4 n4 c4, .slice A5 n5 c5] D1 D2 [⟨2, 1, .slice (some ⟨q3, 0, none⟩) n3 (n3 + 64), n3, numC (whole mkL L.nums)⟩, ⟨84, 3, .slice (some ⟨q2, 0, none⟩) n2 (n2 + 64), n2, (whole mkW D2).flatMap WtL.cells⟩, ⟨90, 4, .slice (some ⟨q1, 0, none⟩) n1 (n1 + 64), n1, (whole mkF D1).flatMap FuL.cells⟩] from hs)
 have x3 : V3.cell? ⟨g0, 3, none⟩ = some (.slice A4 n4 c4) := (hs.blk.cell 3).trans rfl
 clear hs hV y0 z0
 go_wp2_with fail
 (refine (HT.out _ HS3.out.bel).mono ?_); rintro ev w5 ⟨q4, hl, rfl, ho4, hb2⟩
 have hs := HS3.out.call hb2
 have hs := hs.row (r := ⟨9, 1, .slice (some ⟨q4, 0, none⟩) n4 (n4 + 64), n4, envC (whole mkT L.texts)⟩) (ho4.low HS3.out.big)
 have y0 : w5.cell? ⟨g0, 3, none⟩ = some (.slice A4 n4 c4) := (hs.blk.cell 3).trans rfl
 have z0 := hs.blk.frozen 3
 have hs := hs.set 3 (.slice (some ⟨q4, 0, none⟩) n4 (n4 + 64))
 clear hb2 hl ho4  x3
 go_upto_region 5 with fail
 obtain ⟨V4, hV⟩ : ∃ X, w5.setCell ⟨g0, 3, none⟩ (.slice (some ⟨q4, 0, none⟩) n4 (n4 + 64)) = X := ⟨_, rfl⟩
 rw [hV] at hs ⊢
 have HS4 := Lib.hid (show WS w V4 g0 #[.slice (some ⟨q1, 0, none⟩) n1 (n1 + 64), .slice (some ⟨q2, 0, none⟩) n2 (n2 + 64), .slice (some ⟨q3, 0, none⟩) n3 (n3 + 64), .slice (some ⟨q4, 0, none⟩) n4 (n4 + 64), .slice A5 n5 c5] D1 D2 [⟨9, 1, .slice (some ⟨q4, 0, none⟩) n4 (n4 + 64), n4, envC (whole mkT L.texts)⟩, ⟨2, 1, .slice (some ⟨q3, 0, none⟩) n3 (n3 + 64), n3, numC (whole mkL L.nums)⟩, ⟨84, 3, .slice (some ⟨q2, 0, none⟩) n2 (n2 + 64), n2, (whole mkW D2).flatMap WtL.cells⟩, ⟨90, 4, .slice (some ⟨q1, 0, none⟩) n1 (n1 + 64), n1, (whole mkF D1).flatMap FuL.cells⟩] from hs)
 have x4 : V4.cell? ⟨g0, 4, none⟩ = some (.slice A5 n5 c5) := (hs.blk.cell 4).trans rfl
 clear hs hV y0 z0
 go_wp2_with fail
 (refine (HY.out _ HS4.out.bel).mono ?_); rintro ev w6 ⟨q5, hl, rfl, ho5, hb2⟩
 have hs := HS4.out.call hb2
 have hs := hs.row (r := ⟨9, 1, .slice (some ⟨q5, 0, none⟩) n5 (n5 + 64), n5, envC (whole mkT L.types)⟩) (ho5.low HS4.out.big)
 have y0 : w6.cell? ⟨g0, 4, none⟩ = some (.slice A5 n5 c5) := (hs.blk.cell 4).trans rfl
 have z0 := hs.blk.frozen 4
 have hs := hs.set 4 (.slice (some ⟨q5, 0, none⟩) n5 (n5 + 64))
 clear hb2 hl ho5  x4
 go_upto_region 6 with fail
 obtain ⟨V5, hV⟩ : ∃ X, w6.setCell ⟨g0, 4, none⟩ (.slice (some ⟨q5, 0, none⟩) n5 (n5 + 64)) = X := ⟨_, rfl⟩
 rw [hV] at hs ⊢
 have HS5 := Lib.hid (show WS w V5 g0 #[.slice (some ⟨q1, 0, none⟩) n1 (n1 + 64), .slice (some ⟨q2, 0, none⟩) n2 (n2 + 64), .slice (some ⟨q3, 0, none⟩) n3 (n3 + 64), .slice (some ⟨q4, 0, none⟩) n4 (n4 + 64), .slice (some ⟨q5, 0, none⟩) n5 (n5 + 64)] D1 D2 [⟨9, 1, .slice (some ⟨q5, 0, none⟩) n5 (n5 + 64), n5, envC (whole mkT L.types)⟩, ⟨9, 1, .slice (some ⟨q4, 0, none⟩) n4 (n4 + 64), n4, envC (whole mkT L.texts)⟩, ⟨2, 1, .slice (some ⟨q3, 0, none⟩) n3 (n3 + 64), n3, numC (whole mkL L.nums)⟩, ⟨84, 3, .slice (some ⟨q2, 0, none⟩) n2 (n2 + 64), n2, (whole mkW D2).flatMap WtL.cells⟩, ⟨90, 4, .slice (some ⟨q1, 0, none⟩) n1 (n1 + 64), n1, (whole mkF D1).flatMap FuL.cells⟩] from hs)
 clear hs hV y0 z0
 have u0 : V5.cell? ⟨g0, 0, none⟩ = some (.slice (some ⟨q1, 0, none⟩) n1 (n1 + 64)) := (HS5.out.blk.cell 0).trans rfl
 have u1 : V5.cell? ⟨g0, 1, none⟩ = some (.slice (some ⟨q2, 0, none⟩) n2 (n2 + 64)) := (HS5.out.blk.cell 1).trans rfl
 have u2 : V5.cell? ⟨g0, 2, none⟩ = some (.slice (some ⟨q3, 0, none⟩) n3 (n3 + 64)) := (HS5.out.blk.cell 2).trans rfl
 have u3 : V5.cell? ⟨g0, 3, none⟩ = some (.slice (some ⟨q4, 0, none⟩) n4 (n4 + 64)) := (HS5.out.blk.cell 3).trans rfl
 have u4 : V5.cell? ⟨g0, 4, none⟩ = some (.slice (some ⟨q5, 0, none⟩) n5 (n5 + 64)) := (HS5.out.blk.cell 4).trans rfl
 have k5 := HS5.out.nil
 go_wp2_with (refine wpList_store_row rfl 27 (.tmp 2) (.tmp 23) rfl (g0 + 1) #[.slice (some ⟨q1, 0, none⟩) n1 (n1 + 64), .slice (some ⟨q2, 0, none⟩) n2 (n2 + 64), .slice (some ⟨q3, 0, none⟩) n3 (n3 + 64), .slice (some ⟨q4, 0, none⟩) n4 (n4 + 64), .slice (some ⟨q5, 0, none⟩) n5 (n5 + 64)] rfl rfl 27 _ k5 (by kernel_rfl) rfl (by kernel_rfl) ?_)
 (try simp only [Exit.inBlock, Exit.then])
 have hbut := but_setRow (C := fun k => k = g0 + 1) (But.refl _ V5) (.inl rfl) (#[.slice (some ⟨q1, 0, none⟩) n1 (n1 + 64), .slice (some ⟨q2, 0, none⟩) n2 (n2 + 64), .slice (some ⟨q3, 0, none⟩) n3 (n3 + 64), .slice (some ⟨q4, 0, none⟩) n4 (n4 + 64), .slice (some ⟨q5, 0, none⟩) n5 (n5 + 64)] : Array Value)
 have hl1 : D1.length = n1 := by have := congrArg List.length HM1.out; simp only [List.length_map] at this; rw [this]; exact HNN.out.1
 have hl2 : D2.length = n2 := by have := congrArg List.length HM2.out; simp only [List.length_map] at this; rw [this]; exact HNN.out.2.1
 have he : w.heap.size <= g0 + 2 := by have := HS5.out.eq; omega
 have hr := fun (r : Rw) hr => ((HS5.out.own r hr).but hbut (fun k hk => by omega)).low he
 refine bodyPost_ret (results_cell_row rfl _ _ (g0 + 1) 27 #[.slice (some ⟨q1, 0, none⟩) n1 (n1 + 64), .slice (some ⟨q2, 0, none⟩) n2 (n2 + 64), .slice (some ⟨q3, 0, none⟩) n3 (n3 + 64), .slice (some ⟨q4, 0, none⟩) n4 (n4 + 64), .slice (some ⟨q5, 0, none⟩) n5 (n5 + 64)] (0, 0) _ rfl (setRow_heap _ _ _ _ _ _ k5) Tryz.underlying27 rfl (by kernel_rfl)) rfl ⟨⟨D1, D2, L.nums, L.texts, L.types, .slice (some ⟨q1, 0, none⟩) n1 (n1 + 64), .slice (some ⟨q2, 0, none⟩) n2 (n2 + 64), .slice (some ⟨q3, 0, none⟩) n3 (n3 + 64), .slice (some ⟨q4, 0, none⟩) n4 (n4 + 64), .slice (some ⟨q5, 0, none⟩) n5 (n5 + 64)⟩, rfl, ?_, ?_, ?_⟩
 · simp only [CoL.code, HM1.out, HM2.out]
 ·
  refine ⟨?_, ?_, ?_, ?_, ?_, fun g hg => ((HS5.out.fe g hg).but hbut (fun k hk => by omega)).low he, fun g hg => ((HS5.out.co g hg).but hbut (fun k hk => by omega)).low he⟩
  · have := hr ⟨90, 4, .slice (some ⟨q1, 0, none⟩) n1 (n1 + 64), n1, (whole mkF D1).flatMap FuL.cells⟩ (by simp); rw [<- hl1] at this ⊢; exact this
  · have := hr ⟨84, 3, .slice (some ⟨q2, 0, none⟩) n2 (n2 + 64), n2, (whole mkW D2).flatMap WtL.cells⟩ (by simp); rw [<- hl2] at this ⊢; exact this
  · have := hr ⟨2, 1, .slice (some ⟨q3, 0, none⟩) n3 (n3 + 64), n3, numC (whole mkL L.nums)⟩ (by simp); rw [<- HNN.out.2.2.1] at this ⊢; exact this
  · have := hr ⟨9, 1, .slice (some ⟨q4, 0, none⟩) n4 (n4 + 64), n4, envC (whole mkT L.texts)⟩ (by simp); rw [<- HNN.out.2.2.2.1] at this ⊢; exact this
  · have := hr ⟨9, 1, .slice (some ⟨q5, 0, none⟩) n5 (n5 + 64), n5, envC (whole mkT L.types)⟩ (by simp); rw [<- HNN.out.2.2.2.2] at this ⊢; exact this
 · exact below_setRow HS5.out.bel (by have := HS5.out.eq; omega) _
set_option maxRecDepth 100000 in
set_option maxHeartbeats 2000000 in
theorem spareCode_c (L : CoL) (w : World) (lo : Nat) (hg : Gl w) (h : WC w lo L) (hB : C16 L) :
  Calls Tryz.prog 19 #[.agg L.vals.toArray] w fun e w' => e = .returned (.bool true) /\ Below w.heap.size w w' := by
 obtain ⟨q1, _, e1, s1⟩ := h.f
 obtain ⟨q2, _, e2, s2⟩ := h.c
 obtain ⟨q3, _, e3, s3⟩ := h.n
 obtain ⟨q4, _, e4, s4⟩ := h.t
 obtain ⟨q5, _, e5, s5⟩ := h.y
 have HC1 := Lib.hid (fun W (hb : Below w.heap.size w W) => spareFunctions_c L.fns _ q1 lo W rfl hB.f (hg.on hb) ((s1.below hb).more hb.size) (fun g hm => (h.fe g hm).grow hb) hB.fe hB.fc)
 have HC2 := Lib.hid (fun W (hb : Below w.heap.size w W) => spareWaits_c L.casts _ q2 lo W rfl hB.c (hg.on hb) ((s2.below hb).more hb.size) (fun g hm => (h.co g hm).grow hb) hB.co)
 have HC3 := Lib.hid (fun W (hb : Below w.heap.size w W) => spareLongs_any L.nums _ q3 W rfl hB.n ((s3.below hb).more hb.size))
 have HC4 := Lib.hid (fun W (hb : Below w.heap.size w W) => spareTexts_any L.texts _ q4 W rfl hB.t (hg.on hb) ((s4.below hb).more hb.size))
 have HC5 := Lib.hid (fun W (hb : Below w.heap.size w W) => spareTexts_any L.types _ q5 W rfl hB.y (hg.on hb) ((s5.below hb).more hb.size))
 obtain ⟨n1, hn1⟩ : ∃ n, L.fns.length = n := ⟨_, rfl⟩
 rw [hn1] at HC1 e1
 obtain ⟨n2, hn2⟩ : ∃ n, L.casts.length = n := ⟨_, rfl⟩
 rw [hn2] at HC2 e2
 obtain ⟨n3, hn3⟩ : ∃ n, L.nums.length = n := ⟨_, rfl⟩
 rw [hn3] at HC3 e3
 obtain ⟨n4, hn4⟩ : ∃ n, L.texts.length = n := ⟨_, rfl⟩
 rw [hn4] at HC4 e4
 obtain ⟨n5, hn5⟩ : ∃ n, L.types.length = n := ⟨_, rfl⟩
 rw [hn5] at HC5 e5
 rw [show L.vals.toArray = #[.slice (some ⟨q1, 0, none⟩) n1 (n1 + 64), .slice (some ⟨q2, 0, none⟩) n2 (n2 + 64), .slice (some ⟨q3, 0, none⟩) n3 (n3 + 64), .slice (some ⟨q4, 0, none⟩) n4 (n4 + 64), .slice (some ⟨q5, 0, none⟩) n5 (n5 + 64)] by unfold CoL.vals; rw [e1, e2, e3, e4, e5]]
 obtain ⟨bx, hbx⟩ : ∃ x, w.heap.size = x := ⟨_, rfl⟩
 obtain ⟨W1, hW1⟩ : ∃ X, w.alloc (.cells #[.slice (some ⟨q1, 0, none⟩) n1 (n1 + 64), .slice (some ⟨q2, 0, none⟩) n2 (n2 + 64), .slice (some ⟨q3, 0, none⟩) n3 (n3 + 64), .slice (some ⟨q4, 0, none⟩) n4 (n4 + 64), .slice (some ⟨q5, 0, none⟩) n5 (n5 + 64)] 27) = X := ⟨_, rfl⟩
 have HK1 := Lib.hid (show Below w.heap.size w W1 /\ Blk W1 bx 27 #[.slice (some ⟨q1, 0, none⟩) n1 (n1 + 64), .slice (some ⟨q2, 0, none⟩) n2 (n2 + 64), .slice (some ⟨q3, 0, none⟩) n3 (n3 + 64), .slice (some ⟨q4, 0, none⟩) n4 (n4 + 64), .slice (some ⟨q5, 0, none⟩) n5 (n5 + 64)] from ⟨by rw [<- hW1]; exact bal b0 _, by rw [<- hW1, <- hbx]; exact Blk.new w _ _⟩)
 have x1 : W1.cell? ⟨bx, 0, none⟩ = some (.slice (some ⟨q1, 0, none⟩) n1 (n1 + 64)) := (HK1.out.2.cell 0).trans rfl
 clear h hg hB e1 e2 e3 e4 e5 s1 s2 s3 s4 s5 hn1 hn2 hn3 hn4 hn5
 go_enter Tryz.func19, Tryz.ntmps19
 go_upto_region 1 with fail
 clear hW1 hbx
 go_wp2_with fail
 (refine (HC1.out _ HK1.out.1).mono ?_); rintro e w2 ⟨rfl, hb2⟩
 have HK2 := Lib.hid (And.intro (bl HK1.out.1 hb2) (HK1.out.2.below hb2 HK1.out.2.lt))
 have x2 : w2.cell? ⟨bx, 1, none⟩ = some (.slice (some ⟨q2, 0, none⟩) n2 (n2 + 64)) := (HK2.out.2.cell 1).trans rfl
 clear x1 hb2
 go_wp2_with fail
 (refine (HC2.out _ HK2.out.1).mono ?_); rintro e w3 ⟨rfl, hb3⟩
 have HK3 := Lib.hid (And.intro (bl HK2.out.1 hb3) (HK2.out.2.below hb3 HK2.out.2.lt))
 have x3 : w3.cell? ⟨bx, 2, none⟩ = some (.slice (some ⟨q3, 0, none⟩) n3 (n3 + 64)) := (HK3.out.2.cell 2).trans rfl
 clear x2 hb3
 go_wp2_with fail
 (refine (HC3.out _ HK3.out.1).mono ?_); rintro e w4 ⟨rfl, hb4⟩
 have HK4 := Lib.hid (And.intro (bl HK3.out.1 hb4) (HK3.out.2.below hb4 HK3.out.2.lt))
 have x4 : w4.cell? ⟨bx, 3, none⟩ = some (.slice (some ⟨q4, 0, none⟩) n4 (n4 + 64)) := (HK4.out.2.cell 3).trans rfl
 clear x3 hb4
 go_wp2_with fail
 (refine (HC4.out _ HK4.out.1).mono ?_); rintro e w5 ⟨rfl, hb5⟩
 have HK5 := Lib.hid (And.intro (bl HK4.out.1 hb5) (HK4.out.2.below hb5 HK4.out.2.lt))
 have x5 : w5.cell? ⟨bx, 4, none⟩ = some (.slice (some ⟨q5, 0, none⟩) n5 (n5 + 64)) := (HK5.out.2.cell 4).trans rfl
 clear x4 hb5
 go_wp2_with fail
 (refine (HC5.out _ HK5.out.1).mono ?_); rintro e w6 ⟨rfl, hb6⟩
 go_wp2_with fail
 go_ret
 exact ⟨rfl, bl HK5.out.1 hb6⟩
end Go.Proofs.YtobplngonkdbpaaGreatDoor.D
