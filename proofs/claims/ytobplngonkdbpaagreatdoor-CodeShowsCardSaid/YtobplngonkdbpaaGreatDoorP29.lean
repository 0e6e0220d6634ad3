/- Parts of this claim: CgI, CgJ. -/
import Derived.Test.YtobplngonkdbpaaGreatDoorP28
import Derived.Test.YtobplngonkdbpaaGreatDoorP05
set_option linter.unusedVariables false
set_option linter.unusedSimpArgs false
/- CgI -/
namespace Go.Proofs.YtobplngonkdbpaaGreatDoor.D
open Go.RowKit
open Go.Proofs.YtobplngonkdbpaaGreatDoor.B
set_option linter.unusedVariables false
set_option linter.unusedSimpArgs false
theorem wrap_add (a b : Nat) (h : a + b <= 9223372036854775807) : IntKind.i64.wrap ((a : Int) + (b : Int)) = ((a + b : Nat) : Int) := by
 rw [IntWalk.i64_in _ ⟨by omega, by omega⟩]; omega
/-- Sizes that a machine can hold. -/
structure RBd (L : CoL) : Prop where
 f : L.fns.length <= 140737488355328
 c : L.casts.length <= 140737488355328
 n : L.nums.length <= 140737488355328
 t : L.texts.length <= 140737488355328
 y : L.types.length <= 140737488355328
 tx : ∀ x ∈ L.texts, x.length <= 140737488355328
 ty : ∀ x ∈ L.types, x.length <= 140737488355328
 fn : ∀ g ∈ L.fns, g.f.env.length <= 140737488355328 /\ g.f.code.length <= 140737488355328 /\ g.f.param.length <= 140737488355328 /\ g.f.res.length <= 140737488355328 /\ ∀ x ∈ g.f.env, x.length <= 140737488355328
 ca : ∀ g ∈ L.casts, g.w.co.length <= 140737488355328 /\ g.w.f.length <= 140737488355328 /\ g.w.t.length <= 140737488355328
set_option maxRecDepth 100000 in
set_option maxHeartbeats 4000000 in
theorem sizeCode_c (L : CoL) (w : World) (h : CR w L) (hB : RBd L) :
  Calls Tryz.prog 25 #[.agg L.vals.toArray] w fun e w' => ∃ N : Nat, e = .returned (.int .i64 N) /\ N <= 2000000000000000 /\ (N <= 2147483647 -> mC L.code <= N) /\ Below w.heap.size w w' := by
 obtain ⟨A1, c1, e1, hc1, hd1, s1⟩ := h.f.sl
 obtain ⟨A2, c2, e2, hc2, hd2, s2⟩ := h.c.sl
 obtain ⟨A3, c3, e3, hc3, hd3, s3⟩ := h.n.sl
 obtain ⟨A4, c4, e4, hc4, hd4, s4⟩ := h.t.sl
 obtain ⟨A5, c5, e5, hc5, hd5, s5⟩ := h.y.sl
 obtain ⟨n1, hn1⟩ : ∃ n, L.fns.length = n := ⟨_, rfl⟩
 obtain ⟨n2, hn2⟩ : ∃ n, L.casts.length = n := ⟨_, rfl⟩
 obtain ⟨n3, hn3⟩ : ∃ n, L.nums.length = n := ⟨_, rfl⟩
 obtain ⟨n4, hn4⟩ : ∃ n, L.texts.length = n := ⟨_, rfl⟩
 obtain ⟨n5, hn5⟩ : ∃ n, L.types.length = n := ⟨_, rfl⟩
 rw [hn1] at e1 s1
 rw [hn2] at e2 s2
 rw [hn3] at e3 s3
 rw [hn4] at e4 s4
 rw [hn5] at e5 s5
 have m1 : n1 <= 140737488355328 := by rw [<- hn1]; exact hB.f
 have m2 : n2 <= 140737488355328 := by rw [<- hn2]; exact hB.c
 have m3 : n3 <= 140737488355328 := by rw [<- hn3]; exact hB.n
 rw [show L.vals.toArray = #[.slice A1 n1 c1, .slice A2 n2 c2, .slice A3 n3 c3, .slice A4 n4 c4, .slice A5 n5 c5] by unfold CoL.vals; rw [e1, e2, e3, e4, e5]]
 have HT := Lib.hid (fun W (hb : Below w.heap.size w W) => sizeTexts_c L.texts n4 A4 c4 W hn4 (by rw [<- hn4]; exact hB.t) hB.tx ((s4.below hb).more hb.size))
 have HY := Lib.hid (fun W (hb : Below w.heap.size w W) => sizeTypes_c L.types n5 A5 c5 W hn5 (by rw [<- hn5]; exact hB.y) hB.ty ((s5.below hb).more hb.size))
 have HNN := Lib.hid (And.intro hn1 (And.intro hn2 hn3))
 have HSL := Lib.hid (And.intro s1 s2)
 have HR := Lib.hid h
 have HBD := Lib.hid hB
 obtain ⟨g0, hg0⟩ : ∃ x, w.heap.size = x := ⟨_, rfl⟩
 obtain ⟨W1, hW1⟩ : ∃ W1, w.alloc (.cells #[.slice A1 n1 c1, .slice A2 n2 c2, .slice A3 n3 c3, .slice A4 n4 c4, .slice A5 n5 c5] 27) = W1 := ⟨_, rfl⟩
 have hb1 : Below w.heap.size w W1 := by rw [<- hW1]; exact bal b0 _
 have k1 : Blk W1 g0 27 #[.slice A1 n1 c1, .slice A2 n2 c2, .slice A3 n3 c3, .slice A4 n4 c4, .slice A5 n5 c5] := by rw [<- hW1, <- hg0]; exact Blk.new w _ _
 have HK := Lib.hid (And.intro hb1 k1)
 have HX := Lib.hid (show ∀ W, Below W1.heap.size W1 W -> Below W1.heap.size W1 W /\ W.cell? ⟨g0, 0, none⟩ = some (.slice A1 n1 c1) /\ W.cell? ⟨g0, 1, none⟩ = some (.slice A2 n2 c2) /\ W.cell? ⟨g0, 2, none⟩ = some (.slice A3 n3 c3) /\ W.cell? ⟨g0, 3, none⟩ = some (.slice A4 n4 c4) /\ W.cell? ⟨g0, 4, none⟩ = some (.slice A5 n5 c5) from fun W hb => by
  have k := k1.below hb k1.lt
  exact ⟨hb, (k.cell 0).trans rfl, (k.cell 1).trans rfl, (k.cell 2).trans rfl, (k.cell 3).trans rfl, (k.cell 4).trans rfl⟩)
 clear h hB e1 e2 e3 e4 e5 s1 s2 s3 s4 s5 hn1 hn2 hn3 hn4 hn5 hc1 hc2 hc3 hc4 hc5 hd1 hd2 hd3 hd4 hd5 hb1 k1
 go_enter Tryz.func25, Tryz.ntmps25
 go_upto_region 1 with fail
 clear hW1 hg0
 refine wp_region_held_drew (S := (fun W' => Below W1.heap.size W1 W' /\ W'.cell? ⟨g0, 0, none⟩ = some (.slice A1 n1 c1) /\ W'.cell? ⟨g0, 1, none⟩ = some (.slice A2 n2 c2) /\ W'.cell? ⟨g0, 2, none⟩ = some (.slice A3 n3 c3) /\ W'.cell? ⟨g0, 3, none⟩ = some (.slice A4 n4 c4) /\ W'.cell? ⟨g0, 4, none⟩ = some (.slice A5 n5 c5))) (by kernel_rfl) ?ss1 (fun hHeld => ?rr1)
 case ss1 => (try dsimp only); exact HX.out _ (bdr b0 1)
 refine rgt 0 6 rfl rfl hHeld ?_
 try simp only [Act.put, rg1, rg2, rg3]
 refine rgt 1 7 rfl rfl hHeld ?_
 try simp only [Act.put, rg1, rg2, rg3]
 refine rgt 2 8 rfl rfl hHeld ?_
 try simp only [Act.put, rg1, rg2, rg3]
 refine rgt 3 9 rfl rfl hHeld ?_
 try simp only [Act.put, rg1, rg2, rg3]
 refine rgt 4 10 rfl rfl hHeld ?_
 try simp only [Act.put, rg1, rg2, rg3]
 refine rgt 5 11 rfl rfl hHeld ?_
 try simp only [Act.put, rg1, rg2, rg3]
 refine rgt 6 12 rfl rfl hHeld ?_
 try simp only [Act.put, rg1, rg2, rg3]
 refine rgt 7 13 rfl rfl hHeld ?_
 try simp only [Act.put, rg1, rg2, rg3]
 refine rgt 8 14 rfl rfl hHeld ?_
 try simp only [Act.put, rg1, rg2, rg3]
 refine rgt 9 15 rfl rfl hHeld ?_
 try simp only [Act.put, rg1, rg2, rg3]
 refine rgt 10 16 rfl rfl hHeld ?_
 try simp only [Act.put, rg1, rg2, rg3]
 refine rgt 11 17 rfl rfl hHeld ?_
 try simp only [Act.put, rg1, rg2, rg3]
 refine rgt 12 18 rfl rfl hHeld ?_
 try simp only [Act.put, rg1, rg2, rg3]
 refine rgt 15 21 rfl rfl hHeld ?_
 try simp only [Act.put, rg1, rg2, rg3]
 refine rgt 16 22 rfl rfl hHeld ?_
 try simp only [Act.put, rg1, rg2, rg3]
 refine rgc 13 (some 19) rfl (fun K hK => ?_)
 go_simp
 ((refine (HT.out _ (bl HK.out.1 hHeld.1)).mono ?_); rintro e w2 ⟨NT, rfl, hnt, ht, hb2⟩; have HT2 := Lib.hid ht; clear ht)
 refine hK.out _ _ ?ss17 (fun hHeld2 => ?rr17)
 case ss17 => (try dsimp only); exact HX.out _ (bl hHeld.1 hb2)
 clear hK K
 clear hHeld
 have hHeld := hHeld2
 clear hHeld2
 try simp only [Act.put, rg1, rg2, rg3]
 refine rgt 14 20 rfl rfl hHeld ?_
 try simp only [Act.put, rg1, rg2, rg3]
 refine rgc 17 (some 23) rfl (fun K hK => ?_)
 go_simp
 ((refine (HY.out _ (bl HK.out.1 hHeld.1)).mono ?_); rintro e w3 ⟨NY, rfl, hny, hy, hb3⟩; have HY3 := Lib.hid hy; clear hy)
 refine hK.out _ _ ?ss19 (fun hHeld2 => ?rr19)
 case ss19 => (try dsimp only); exact HX.out _ (bl hHeld.1 hb3)
 clear hK K
 clear hHeld
 have hHeld := hHeld2
 clear hHeld2
 try simp only [Act.put, rg1, rg2, rg3]
 refine rgt 18 24 rfl rfl hHeld ?_
 try simp only [Act.put, rg1, rg2, rg3]
 refine rgt 19 3 rfl rfl hHeld ?_
 try simp only [Act.put, rg1, rg2, rg3]
 refine wpAnyH_done (by kernel_rfl) ?_ _
 have HW3 := Lib.hid hHeld.1
 clear hb2 hb3 hHeld
 go_wp2_with fail
 go_loopg [3, 4] n1 (fun gg z i wr => ∃ k N : Nat, k <= n1 /\ gg = n1 - k /\ i = .int .i64 k /\ z = .int .i64 N /\ N <= 1000000000000000 /\ Hid ((N <= 2147483647 -> n1 + n2 + n3 + mT L.texts + mT L.types + ((L.fns.take k).map fun g => mF g.f).sum <= N) /\ Below W1.heap.size W1 wr))
 case atStart =>
  refine ⟨0, n1 + n2 + n3 + NT + NY, by omega, rfl, rfl, (congrArg (Value.int IntKind.i64) (by rw [wrap_add _ _ (by omega), wrap_add _ _ (by omega), wrap_add _ _ (by omega), wrap_add _ _ (by omega)])), by omega, Lib.hid ⟨fun h => ?_, HW3.out⟩⟩
  have h1 := HT2.out (by omega)
  have h2 := HY3.out (by omega)
  simp only [List.take_zero, List.map_nil, List.sum_nil]
  omega
 case round =>
  obtain ⟨k, N, hk, rfl, rfl, rfl, hN, HRr⟩ := hrel
  have x0 := (HX.out wr HRr.out.2).2.1
  have x1 := (HX.out wr HRr.out.2).2.2.1
  by_cases hlt : k < n1
  ·
   by_cases hbig : N <= 2147483647
   ·
    obtain ⟨g, hx⟩ : ∃ g, L.fns[k]? = some g := ⟨_, List.getElem?_eq_getElem (by rw [HNN.out.1]; exact hlt)⟩
    obtain ⟨b, o, rfl, hbl, hc⟩ := HSL.out.1.at_ (by omega)
    have hm := List.mem_of_getElem? hx
    have HBw := Lib.hid (bl HK.out.1 HRr.out.2)
    obtain ⟨Ae, ce, eev, hce, hde, sev⟩ := (HR.out.fe g hm).sl
    obtain ⟨Ac, cc, ecv, hcc, hcd, sco⟩ := (HR.out.fc g hm).sl
    obtain ⟨M, hM⟩ : ∃ M, g.f.env.length = M := ⟨_, rfl⟩
    obtain ⟨Q, hQ⟩ : ∃ Q, g.f.code.length = Q := ⟨_, rfl⟩
    obtain ⟨r1, r2, r3, r4, r5⟩ := HBD.out.fn g hm
    rw [hM] at eev sev r1
    rw [hQ] at ecv r2
    have kc : ∀ j v, (FuL.cells g)[j]? = some v -> j < 4 -> ∀ W, Below w.heap.size w W -> W.cell? ⟨b, o + k * 4 + j, none⟩ = some v := fun j v hv hj W hW => by
     rw [Nat.add_assoc]
     exact (hW.cell (p := ⟨b, o + (k * 4 + j), none⟩) hbl).trans (hc _ _ (by rw [flat_at FuL.cells 4 (fun _ => rfl) _ _ _ _ hx hj]; exact hv))
    have hst := sum_take (fun g : FuL => mF g.f) hx
    have HE := Lib.hid (fun W (hb : Below w.heap.size w W) => sizeTypes_c g.f.env M Ae ce W hM r1 r5 ((sev.below hb).more hb.size))
    have HP := Lib.hid (fun W => sizeTy_c g.f.param W r3)
    have HQ2 := Lib.hid (fun W => sizeTy_c g.f.res W r4)
    have HC := Lib.hid (show ∀ W, Below W1.heap.size W1 W -> Below W1.heap.size W1 W /\ W.cell? ⟨g0, 0, none⟩ = some (.slice (some ⟨b, o, none⟩) n1 c1) /\ W.cell? ⟨b, o + k * 4, none⟩ = some (.slice Ae M ce) /\ W.cell? ⟨b, o + k * 4 + 1, none⟩ = some (.string ⟨g.f.param.toArray⟩) /\ W.cell? ⟨b, o + k * 4 + 2, none⟩ = some (.string ⟨g.f.res.toArray⟩) /\ W.cell? ⟨b, o + k * 4 + 3, none⟩ = some (.slice Ac Q cc) from fun W hW =>
     ⟨hW, (HX.out W hW).2.1, kc 0 _ (by show some g.ev = _; rw [eev]) (by decide) W (bl HK.out.1 hW), kc 1 _ rfl (by decide) W (bl HK.out.1 hW), kc 2 _ rfl (by decide) W (bl HK.out.1 hW), kc 3 _ (by show some g.cv = _; rw [ecv]) (by decide) W (bl HK.out.1 hW)⟩)
    have q1 := tyN_le _ r3
    have q2 := tyN_le _ r4
    have HL := Lib.hid (And.intro hst (And.intro hM (And.intro hQ (And.intro (tyN_ge g.f.param) (tyN_ge g.f.res)))))
    clear hx hbl hc hm eev ecv hce hde hcc hcd sev sco r1 r3 r4 r5 kc hst hM hQ x1
    go_upto_region 5 with fail
    refine wp_region_held_drew (S := (fun W' => Below W1.heap.size W1 W' /\ W'.cell? ⟨g0, 0, none⟩ = some (.slice (some ⟨b, o, none⟩) n1 c1) /\ W'.cell? ⟨b, o + k * 4, none⟩ = some (.slice Ae M ce) /\ W'.cell? ⟨b, o + k * 4 + 1, none⟩ = some (.string ⟨g.f.param.toArray⟩) /\ W'.cell? ⟨b, o + k * 4 + 2, none⟩ = some (.string ⟨g.f.res.toArray⟩) /\ W'.cell? ⟨b, o + k * 4 + 3, none⟩ = some (.slice Ac Q cc))) (by kernel_rfl) ?ss22 (fun hHeld => ?rr22)
    case ss22 => (try dsimp only); exact HC.out _ (bdr HRr.out.2 1)
    refine rgt 0 36 rfl rfl hHeld ?_
    try simp only [Act.put, rg1, rg2, rg3]
    refine rgt 1 37 rfl rfl hHeld ?_
    try simp only [Act.put, rg1, rg2, rg3]
    refine rgt 2 38 rfl rfl hHeld ?_
    try simp only [Act.put, rg1, rg2, rg3]
    refine rgt 3 39 rfl rfl hHeld ?_
    try simp only [Act.put, rg1, rg2, rg3]
    refine rgt 4 40 rfl rfl hHeld ?_
    try simp only [Act.put, rg1, rg2, rg3]
    refine rgt 5 41 rfl rfl hHeld ?_
    try simp only [Act.put, rg1, rg2, rg3]
    refine rgt 6 42 rfl rfl hHeld ?_
    try simp only [Act.put, rg1, rg2, rg3]
    refine rgt 9 45 rfl rfl hHeld ?_
    try simp only [Act.put, rg1, rg2, rg3]
    refine rgt 10 46 rfl rfl hHeld ?_
    try simp only [Act.put, rg1, rg2, rg3]
    refine rgt 11 47 rfl rfl hHeld ?_
    try simp only [Act.put, rg1, rg2, rg3]
    refine rgt 12 48 rfl rfl hHeld ?_
    try simp only [Act.put, rg1, rg2, rg3]
    refine rgt 13 49 rfl rfl hHeld ?_
    try simp only [Act.put, rg1, rg2, rg3]
    refine rgt 14 50 rfl rfl hHeld ?_
    try simp only [Act.put, rg1, rg2, rg3]
    refine rgt 17 53 rfl rfl hHeld ?_
    try simp only [Act.put, rg1, rg2, rg3]
    refine rgt 18 54 rfl rfl hHeld ?_
    try simp only [Act.put, rg1, rg2, rg3]
    refine rgt 19 55 rfl rfl hHeld ?_
    try simp only [Act.put, rg1, rg2, rg3]
    refine rgt 20 56 rfl rfl hHeld ?_
    try simp only [Act.put, rg1, rg2, rg3]
    refine rgt 21 57 rfl rfl hHeld ?_
    try simp only [Act.put, rg1, rg2, rg3]
    refine rgt 22 58 rfl rfl hHeld ?_
    try simp only [Act.put, rg1, rg2, rg3]
    refine rgt 25 61 rfl rfl hHeld ?_
    try simp only [Act.put, rg1, rg2, rg3]
    refine rgt 26 62 rfl rfl hHeld ?_
    try simp only [Act.put, rg1, rg2, rg3]
    refine rgt 27 63 rfl rfl hHeld ?_
    try simp only [Act.put, rg1, rg2, rg3]
    refine rgt 28 64 rfl rfl hHeld ?_
    try simp only [Act.put, rg1, rg2, rg3]
    refine rgt 29 65 rfl rfl hHeld ?_
    try simp only [Act.put, rg1, rg2, rg3]
    refine rgt 30 66 rfl rfl hHeld ?_
    try simp only [Act.put, rg1, rg2, rg3]
    refine rgt 31 67 rfl rfl hHeld ?_
    try simp only [Act.put, rg1, rg2, rg3]
    refine rgc 7 (some 43) rfl (fun K hK => ?_)
    go_simp
    ((refine (HE.out _ (bl HK.out.1 hHeld.1)).mono ?_); rintro e w4 ⟨NE, rfl, hne, he, hb4⟩; have HE4 := Lib.hid he; clear he)
    refine hK.out _ _ ?ss49 (fun hHeld2 => ?rr49)
    case ss49 => (try dsimp only); exact HC.out _ (bl hHeld.1 hb4)
    clear hK K
    clear hHeld
    have hHeld := hHeld2
    clear hHeld2
    try simp only [Act.put, rg1, rg2, rg3]
    refine rgt 8 44 rfl rfl hHeld ?_
    try simp only [Act.put, rg1, rg2, rg3]
    refine rgc 15 (some 51) rfl (fun K hK => ?_)
    go_simp
    ((refine (HP.out _).mono ?_); rintro e w5 ⟨rfl, hb5⟩)
    refine hK.out _ _ ?ss51 (fun hHeld2 => ?rr51)
    case ss51 => (try dsimp only); exact HC.out _ (bl hHeld.1 hb5)
    clear hK K
    clear hHeld
    have hHeld := hHeld2
    clear hHeld2
    try simp only [Act.put, rg1, rg2, rg3]
    refine rgt 16 52 rfl rfl hHeld ?_
    try simp only [Act.put, rg1, rg2, rg3]
    refine rgc 23 (some 59) rfl (fun K hK => ?_)
    go_simp
    ((refine (HQ2.out _).mono ?_); rintro e w6 ⟨rfl, hb6⟩)
    refine hK.out _ _ ?ss53 (fun hHeld2 => ?rr53)
    case ss53 => (try dsimp only); exact HC.out _ (bl hHeld.1 hb6)
    clear hK K
    clear hHeld
    have hHeld := hHeld2
    clear hHeld2
    try simp only [Act.put, rg1, rg2, rg3]
    refine rgt 24 60 rfl rfl hHeld ?_
    try simp only [Act.put, rg1, rg2, rg3]
    refine rgt 32 68 rfl rfl hHeld ?_
    try simp only [Act.put, rg1, rg2, rg3]
    refine rgt 33 3 rfl rfl hHeld ?_
    try simp only [Act.put, rg1, rg2, rg3]
    refine wpAnyH_done (by kernel_rfl) ?_ _
    have HW6 := Lib.hid hHeld.1
    clear hb4 hb5 hb6 hHeld x0
    go_wp2_with fail
    go_roundg (n1 - (k + 1))
    case measure => omega
    case rel =>
     refine ⟨k + 1, N + NE + tyN g.f.param + tyN g.f.res + Q, by omega, rfl, by go_num, (congrArg (Value.int IntKind.i64) (by rw [wrap_add _ _ (by omega), wrap_add _ _ (by omega), wrap_add _ _ (by omega), wrap_add _ _ (by omega)])), by omega, Lib.hid ⟨fun h => ?_, HW6.out⟩⟩
     have h1 := HE4.out (by omega)
     have h2 := HL.out.2.2.2.1 (by omega)
     have h3 := HL.out.2.2.2.2 (by omega)
     have h4 := HRr.out.1 hbig
     have h6 := HL.out.1
     rw [h6]
     have h5 := HL.out.2.2.1
     have h7 : mF g.f = mT g.f.env + g.f.param.length + g.f.res.length + g.f.code.length := rfl
     omega
   ·
    have hd : decide ((N : Int) <= 2147483647) = false := by simp; omega
    have HRr2 := Lib.hid (show (N <= 2147483647 -> n1 + n2 + n3 + mT L.texts + mT L.types + ((L.fns.take n1).map fun g => mF g.f).sum <= N) from fun h => absurd h hbig)
    clear hbig
    go_wp2_with fail
    clear hd hlt
    go_loopg [3, 5] n2 (fun gg z i wr => ∃ k N : Nat, k <= n2 /\ gg = n2 - k /\ i = .int .i64 k /\ z = .int .i64 N /\ N <= 1000000000000000 /\ Hid ((N <= 2147483647 -> n1 + n2 + n3 + mT L.texts + mT L.types + ((L.fns.take n1).map fun g => mF g.f).sum + ((L.casts.take k).map fun g => mW g.w).sum <= N) /\ Below W1.heap.size W1 wr))
    case atStart => exact ⟨0, _, by omega, rfl, rfl, rfl, hN, Lib.hid ⟨fun h => by simp only [List.take_zero, List.map_nil, List.sum_nil]; exact HRr2.out h, HRr.out.2⟩⟩
    case round =>
     obtain ⟨k, N, hk, rfl, rfl, rfl, hN, HRs⟩ := hrel
     clear x0 x1
     have x1 := (HX.out wr HRs.out.2).2.2.1
     by_cases hlt : k < n2
     ·
      by_cases hbig : N <= 2147483647
      ·
       obtain ⟨g, hx⟩ : ∃ g, L.casts[k]? = some g := ⟨_, List.getElem?_eq_getElem (by rw [HNN.out.2.1]; exact hlt)⟩
       obtain ⟨b, o, rfl, hbl, hc⟩ := HSL.out.2.at_ (by omega)
       have hm := List.mem_of_getElem? hx
       obtain ⟨Ac, cc, ecv, hcc, hcd, sco⟩ := (HR.out.co g hm).sl
       obtain ⟨Q, hQ⟩ : ∃ Q, g.w.co.length = Q := ⟨_, rfl⟩
       obtain ⟨r2, r3, r4⟩ := HBD.out.ca g hm
       rw [hQ] at ecv r2
       have kc : ∀ j v, (WtL.cells g)[j]? = some v -> j < 3 -> ∀ W, Below w.heap.size w W -> W.cell? ⟨b, o + k * 3 + j, none⟩ = some v := fun j v hv hj W hW => by
        rw [Nat.add_assoc]
        exact (hW.cell (p := ⟨b, o + (k * 3 + j), none⟩) hbl).trans (hc _ _ (by rw [flat_at WtL.cells 3 (fun _ => rfl) _ _ _ _ hx hj]; exact hv))
       have hst := sum_take (fun g : WtL => mW g.w) hx
       have HP := Lib.hid (fun W => sizeTy_c g.w.f W r3)
       have HQ2 := Lib.hid (fun W => sizeTy_c g.w.t W r4)
       have HC := Lib.hid (show ∀ W, Below W1.heap.size W1 W -> Below W1.heap.size W1 W /\ W.cell? ⟨g0, 1, none⟩ = some (.slice (some ⟨b, o, none⟩) n2 c2) /\ W.cell? ⟨b, o + k * 3, none⟩ = some (.string ⟨g.w.f.toArray⟩) /\ W.cell? ⟨b, o + k * 3 + 1, none⟩ = some (.string ⟨g.w.t.toArray⟩) /\ W.cell? ⟨b, o + k * 3 + 2, none⟩ = some (.slice Ac Q cc) from fun W hW =>
        ⟨hW, (HX.out W hW).2.2.1, kc 0 _ rfl (by decide) W (bl HK.out.1 hW), kc 1 _ rfl (by decide) W (bl HK.out.1 hW), kc 2 _ (by show some g.cv = _; rw [ecv]) (by decide) W (bl HK.out.1 hW)⟩)
       have q1 := tyN_le _ r3
       have q2 := tyN_le _ r4
       have HL := Lib.hid (And.intro hst (And.intro hQ (And.intro (tyN_ge g.w.f) (tyN_ge g.w.t))))
       clear hx hbl hc hm ecv hcc hcd sco r3 r4 kc hst hQ
       go_upto_region 9 with fail
       refine wp_region_held_drew (S := (fun W' => Below W1.heap.size W1 W' /\ W'.cell? ⟨g0, 1, none⟩ = some (.slice (some ⟨b, o, none⟩) n2 c2) /\ W'.cell? ⟨b, o + k * 3, none⟩ = some (.string ⟨g.w.f.toArray⟩) /\ W'.cell? ⟨b, o + k * 3 + 1, none⟩ = some (.string ⟨g.w.t.toArray⟩) /\ W'.cell? ⟨b, o + k * 3 + 2, none⟩ = some (.slice Ac Q cc))) (by kernel_rfl) ?ss57 (fun hHeld => ?rr57)
       case ss57 => (try dsimp only); exact HC.out _ (bdr HRs.out.2 1)
       refine rgt 0 80 rfl rfl hHeld ?_
       try simp only [Act.put, rg1, rg2, rg3]
       refine rgt 1 81 rfl rfl hHeld ?_
       try simp only [Act.put, rg1, rg2, rg3]
       refine rgt 2 82 rfl rfl hHeld ?_
       try simp only [Act.put, rg1, rg2, rg3]
       refine rgt 3 83 rfl rfl hHeld ?_
       try simp only [Act.put, rg1, rg2, rg3]
       refine rgt 4 84 rfl rfl hHeld ?_
       try simp only [Act.put, rg1, rg2, rg3]
       refine rgt 5 85 rfl rfl hHeld ?_
       try simp only [Act.put, rg1, rg2, rg3]
       refine rgt 6 86 rfl rfl hHeld ?_
       try simp only [Act.put, rg1, rg2, rg3]
       refine rgt 9 89 rfl rfl hHeld ?_
       try simp only [Act.put, rg1, rg2, rg3]
       refine rgt 10 90 rfl rfl hHeld ?_
       try simp only [Act.put, rg1, rg2, rg3]
       refine rgt 11 91 rfl rfl hHeld ?_
       try simp only [Act.put, rg1, rg2, rg3]
       refine rgt 12 92 rfl rfl hHeld ?_
       try simp only [Act.put, rg1, rg2, rg3]
       refine rgt 13 93 rfl rfl hHeld ?_
       try simp only [Act.put, rg1, rg2, rg3]
       refine rgt 14 94 rfl rfl hHeld ?_
       try simp only [Act.put, rg1, rg2, rg3]
       refine rgt 17 97 rfl rfl hHeld ?_
       try simp only [Act.put, rg1, rg2, rg3]
       refine rgt 18 98 rfl rfl hHeld ?_
       try simp only [Act.put, rg1, rg2, rg3]
       refine rgt 19 99 rfl rfl hHeld ?_
       try simp only [Act.put, rg1, rg2, rg3]
       refine rgt 20 100 rfl rfl hHeld ?_
       try simp only [Act.put, rg1, rg2, rg3]
       refine rgt 21 101 rfl rfl hHeld ?_
       try simp only [Act.put, rg1, rg2, rg3]
       refine rgt 22 102 rfl rfl hHeld ?_
       try simp only [Act.put, rg1, rg2, rg3]
       refine rgt 23 103 rfl rfl hHeld ?_
       try simp only [Act.put, rg1, rg2, rg3]
       refine rgc 7 (some 87) rfl (fun K hK => ?_)
       go_simp
       ((refine (HP.out _).mono ?_); rintro e w5 ⟨rfl, hb5⟩)
       refine hK.out _ _ ?ss78 (fun hHeld2 => ?rr78)
       case ss78 => (try dsimp only); exact HC.out _ (bl hHeld.1 hb5)
       clear hK K
       clear hHeld
       have hHeld := hHeld2
       clear hHeld2
       try simp only [Act.put, rg1, rg2, rg3]
       refine rgt 8 88 rfl rfl hHeld ?_
       try simp only [Act.put, rg1, rg2, rg3]
       refine rgc 15 (some 95) rfl (fun K hK => ?_)
       go_simp
       ((refine (HQ2.out _).mono ?_); rintro e w6 ⟨rfl, hb6⟩)
       refine hK.out _ _ ?ss80 (fun hHeld2 => ?rr80)
       case ss80 => (try dsimp only); exact HC.out _ (bl hHeld.1 hb6)
       clear hK K
       clear hHeld
       have hHeld := hHeld2
       clear hHeld2
       try simp only [Act.put, rg1, rg2, rg3]
       refine rgt 16 96 rfl rfl hHeld ?_
       try simp only [Act.put, rg1, rg2, rg3]
       refine rgt 24 104 rfl rfl hHeld ?_
       try simp only [Act.put, rg1, rg2, rg3]
       refine rgt 25 3 rfl rfl hHeld ?_
       try simp only [Act.put, rg1, rg2, rg3]
       refine wpAnyH_done (by kernel_rfl) ?_ _
       have HW6 := Lib.hid hHeld.1
       clear hb5 hb6 hHeld x1
       go_wp2_with fail
       go_roundg (n2 - (k + 1))
       case measure => omega
       case rel =>
        refine ⟨k + 1, N + tyN g.w.f + tyN g.w.t + Q, by omega, rfl, by go_num, (congrArg (Value.int IntKind.i64) (by rw [wrap_add _ _ (by omega), wrap_add _ _ (by omega), wrap_add _ _ (by omega)])), by omega, Lib.hid ⟨fun h => ?_, HW6.out⟩⟩
        have h2 := HL.out.2.2.1 (by omega)
        have h3 := HL.out.2.2.2 (by omega)
        have h4 := HRs.out.1 hbig
        have h6 := HL.out.1
        rw [h6]
        have h5 := HL.out.2.1
        have h7 : mW g.w = g.w.f.length + g.w.t.length + g.w.co.length := rfl
        omega
      ·
       have hd : decide ((N : Int) <= 2147483647) = false := by simp; omega
       go_wp2_with fail
       go_ret
       exact ⟨N, rfl, by omega, fun h => absurd h hbig, bl HK.out.1 HRs.out.2⟩
     ·
      obtain rfl : k = n2 := by omega
      go_wp2_with fail
      go_ret
      refine ⟨N, rfl, by omega, fun h => ?_, bl HK.out.1 HRs.out.2⟩
      have h4 := HRs.out.1 h
      rw [<- HNN.out.2.1, List.take_length] at h4
      have e1 : (L.fns.take n1).map (fun g => mF g.f) = L.code.fns.map mF := by rw [<- HNN.out.1, List.take_length]; simp [CoL.code]
      have e2 : L.casts.map (fun g => mW g.w) = L.code.casts.map mW := by simp [CoL.code]
      rw [e1, e2] at h4
      unfold mC
      have f1 : L.code.fns.length = n1 := by simp only [CoL.code, List.length_map]; exact HNN.out.1
      have f2 : L.code.casts.length = L.casts.length := by simp only [CoL.code, List.length_map]
      have f3 : L.code.nums.length = n3 := HNN.out.2.2
      have f4 : L.code.texts = L.texts := rfl
      have f5 : L.code.types = L.types := rfl
      rw [f1, f2, f3, f4, f5]
      omega
  ·
   obtain rfl : n1 = k := by omega
   have HRr2 := Lib.hid HRr.out.1
   go_wp2_with fail
   go_loopg [3, 5] n2 (fun gg z i wr => ∃ k N : Nat, k <= n2 /\ gg = n2 - k /\ i = .int .i64 k /\ z = .int .i64 N /\ N <= 1000000000000000 /\ Hid ((N <= 2147483647 -> n1 + n2 + n3 + mT L.texts + mT L.types + ((L.fns.take n1).map fun g => mF g.f).sum + ((L.casts.take k).map fun g => mW g.w).sum <= N) /\ Below W1.heap.size W1 wr))
   case atStart => exact ⟨0, _, by omega, rfl, rfl, rfl, hN, Lib.hid ⟨fun h => by simp only [List.take_zero, List.map_nil, List.sum_nil]; exact HRr2.out h, HRr.out.2⟩⟩
   case round =>
    obtain ⟨k, N, hk, rfl, rfl, rfl, hN, HRs⟩ := hrel
    clear x0 x1
    have x1 := (HX.out wr HRs.out.2).2.2.1
    by_cases hlt : k < n2
    ·
     by_cases hbig : N <= 2147483647
     ·
      obtain ⟨g, hx⟩ : ∃ g, L.casts[k]? = some g := ⟨_, List.getElem?_eq_getElem (by rw [HNN.out.2.1]; exact hlt)⟩
      obtain ⟨b, o, rfl, hbl, hc⟩ := HSL.out.2.at_ (by omega)
      have hm := List.mem_of_getElem? hx
      obtain ⟨Ac, cc, ecv, hcc, hcd, sco⟩ := (HR.out.co g hm).sl
      obtain ⟨Q, hQ⟩ : ∃ Q, g.w.co.length = Q := ⟨_, rfl⟩
      obtain ⟨r2, r3, r4⟩ := HBD.out.ca g hm
      rw [hQ] at ecv r2
      have kc : ∀ j v, (WtL.cells g)[j]? = some v -> j < 3 -> ∀ W, Below w.heap.size w W -> W.cell? ⟨b, o + k * 3 + j, none⟩ = some v := fun j v hv hj W hW => by
       rw [Nat.add_assoc]
       exact (hW.cell (p := ⟨b, o + (k * 3 + j), none⟩) hbl).trans (hc _ _ (by rw [flat_at WtL.cells 3 (fun _ => rfl) _ _ _ _ hx hj]; exact hv))
      have hst := sum_take (fun g : WtL => mW g.w) hx
      have HP := Lib.hid (fun W => sizeTy_c g.w.f W r3)
      have HQ2 := Lib.hid (fun W => sizeTy_c g.w.t W r4)
      have HC := Lib.hid (show ∀ W, Below W1.heap.size W1 W -> Below W1.heap.size W1 W /\ W.cell? ⟨g0, 1, none⟩ = some (.slice (some ⟨b, o, none⟩) n2 c2) /\ W.cell? ⟨b, o + k * 3, none⟩ = some (.string ⟨g.w.f.toArray⟩) /\ W.cell? ⟨b, o + k * 3 + 1, none⟩ = some (.string ⟨g.w.t.toArray⟩) /\ W.cell? ⟨b, o + k * 3 + 2, none⟩ = some (.slice Ac Q cc) from fun W hW =>
       ⟨hW, (HX.out W hW).2.2.1, kc 0 _ rfl (by decide) W (bl HK.out.1 hW), kc 1 _ rfl (by decide) W (bl HK.out.1 hW), kc 2 _ (by show some g.cv = _; rw [ecv]) (by decide) W (bl HK.out.1 hW)⟩)
      have q1 := tyN_le _ r3
      have q2 := tyN_le _ r4
      have HL := Lib.hid (And.intro hst (And.intro hQ (And.intro (tyN_ge g.w.f) (tyN_ge g.w.t))))
      clear hx hbl hc hm ecv hcc hcd sco r3 r4 kc hst hQ
      go_upto_region 9 with fail
      refine wp_region_held_drew (S := (fun W' => Below W1.heap.size W1 W' /\ W'.cell? ⟨g0, 1, none⟩ = some (.slice (some ⟨b, o, none⟩) n2 c2) /\ W'.cell? ⟨b, o + k * 3, none⟩ = some (.string ⟨g.w.f.toArray⟩) /\ W'.cell? ⟨b, o + k * 3 + 1, none⟩ = some (.string ⟨g.w.t.toArray⟩) /\ W'.cell? ⟨b, o + k * 3 + 2, none⟩ = some (.slice Ac Q cc))) (by kernel_rfl) ?ss84 (fun hHeld => ?rr84)
      case ss84 => (try dsimp only); exact HC.out _ (bdr HRs.out.2 1)
      refine rgt 0 80 rfl rfl hHeld ?_
      try simp only [Act.put, rg1, rg2, rg3]
      refine rgt 1 81 rfl rfl hHeld ?_
      try simp only [Act.put, rg1, rg2, rg3]
      refine rgt 2 82 rfl rfl hHeld ?_
      try simp only [Act.put, rg1, rg2, rg3]
      refine rgt 3 83 rfl rfl hHeld ?_
      try simp only [Act.put, rg1, rg2, rg3]
      refine rgt 4 84 rfl rfl hHeld ?_
      try simp only [Act.put, rg1, rg2, rg3]
      refine rgt 5 85 rfl rfl hHeld ?_
      try simp only [Act.put, rg1, rg2, rg3]
      refine rgt 6 86 rfl rfl hHeld ?_
      try simp only [Act.put, rg1, rg2, rg3]
      refine rgt 9 89 rfl rfl hHeld ?_
      try simp only [Act.put, rg1, rg2, rg3]
      refine rgt 10 90 rfl rfl hHeld ?_
      try simp only [Act.put, rg1, rg2, rg3]
      refine rgt 11 91 rfl rfl hHeld ?_
      try simp only [Act.put, rg1, rg2, rg3]
      refine rgt 12 92 rfl rfl hHeld ?_
      try simp only [Act.put, rg1, rg2, rg3]
      refine rgt 13 93 rfl rfl hHeld ?_
      try simp only [Act.put, rg1, rg2, rg3]
      refine rgt 14 94 rfl rfl hHeld ?_
      try simp only [Act.put, rg1, rg2, rg3]
      refine rgt 17 97 rfl rfl hHeld ?_
      try simp only [Act.put, rg1, rg2, rg3]
      refine rgt 18 98 rfl rfl hHeld ?_
      try simp only [Act.put, rg1, rg2, rg3]
      refine rgt 19 99 rfl rfl hHeld ?_
      try simp only [Act.put, rg1, rg2, rg3]
      refine rgt 20 100 rfl rfl hHeld ?_
      try simp only [Act.put, rg1, rg2, rg3]
      refine rgt 21 101 rfl rfl hHeld ?_
      try simp only [Act.put, rg1, rg2, rg3]
      refine rgt 22 102 rfl rfl hHeld ?_
      try simp only [Act.put, rg1, rg2, rg3]
      refine rgt 23 103 rfl rfl hHeld ?_
      try simp only [Act.put, rg1, rg2, rg3]
      refine rgc 7 (some 87) rfl (fun K hK => ?_)
      go_simp
      ((refine (HP.out _).mono ?_); rintro e w5 ⟨rfl, hb5⟩)
      refine hK.out _ _ ?ss105 (fun hHeld2 => ?rr105)
      case ss105 => (try dsimp only); exact HC.out _ (bl hHeld.1 hb5)
      clear hK K
      clear hHeld
      have hHeld := hHeld2
      clear hHeld2
      try simp only [Act.put, rg1, rg2, rg3]
      refine rgt 8 88 rfl rfl hHeld ?_
      try simp only [Act.put, rg1, rg2, rg3]
      refine rgc 15 (some 95) rfl (fun K hK => ?_)
      go_simp
      ((refine (HQ2.out _).mono ?_); rintro e w6 ⟨rfl, hb6⟩)
      refine hK.out _ _ ?ss107 (fun hHeld2 => ?rr107)
      case ss107 => (try dsimp only); exact HC.out _ (bl hHeld.1 hb6)
      clear hK K
      clear hHeld
      have hHeld := hHeld2
      clear hHeld2
      try simp only [Act.put, rg1, rg2, rg3]
      refine rgt 16 96 rfl rfl hHeld ?_
      try simp only [Act.put, rg1, rg2, rg3]
      refine rgt 24 104 rfl rfl hHeld ?_
      try simp only [Act.put, rg1, rg2, rg3]
      refine rgt 25 3 rfl rfl hHeld ?_
      try simp only [Act.put, rg1, rg2, rg3]
      refine wpAnyH_done (by kernel_rfl) ?_ _
      have HW6 := Lib.hid hHeld.1
      clear hb5 hb6 hHeld x1
      go_wp2_with fail
      go_roundg (n2 - (k + 1))
      case measure => omega
      case rel =>
       refine ⟨k + 1, N + tyN g.w.f + tyN g.w.t + Q, by omega, rfl, by go_num, (congrArg (Value.int IntKind.i64) (by rw [wrap_add _ _ (by omega), wrap_add _ _ (by omega), wrap_add _ _ (by omega)])), by omega, Lib.hid ⟨fun h => ?_, HW6.out⟩⟩
       have h2 := HL.out.2.2.1 (by omega)
       have h3 := HL.out.2.2.2 (by omega)
       have h4 := HRs.out.1 hbig
       have h6 := HL.out.1
       rw [h6]
       have h5 := HL.out.2.1
       have h7 : mW g.w = g.w.f.length + g.w.t.length + g.w.co.length := rfl
       omega
     ·
      have hd : decide ((N : Int) <= 2147483647) = false := by simp; omega
      go_wp2_with fail
      go_ret
      exact ⟨N, rfl, by omega, fun h => absurd h hbig, bl HK.out.1 HRs.out.2⟩
    ·
     obtain rfl : k = n2 := by omega
     go_wp2_with fail
     go_ret
     refine ⟨N, rfl, by omega, fun h => ?_, bl HK.out.1 HRs.out.2⟩
     have h4 := HRs.out.1 h
     rw [<- HNN.out.2.1, List.take_length] at h4
     have e1 : (L.fns.take n1).map (fun g => mF g.f) = L.code.fns.map mF := by rw [<- HNN.out.1, List.take_length]; simp [CoL.code]
     have e2 : L.casts.map (fun g => mW g.w) = L.code.casts.map mW := by simp [CoL.code]
     rw [e1, e2] at h4
     unfold mC
     have f1 : L.code.fns.length = n1 := by simp only [CoL.code, List.length_map]; exact HNN.out.1
     have f2 : L.code.casts.length = L.casts.length := by simp only [CoL.code, List.length_map]
     have f3 : L.code.nums.length = n3 := HNN.out.2.2
     have f4 : L.code.texts = L.texts := rfl
     have f5 : L.code.types = L.types := rfl
     rw [f1, f2, f3, f4, f5]
     omega
end Go.Proofs.YtobplngonkdbpaaGreatDoor.D
/- CgJ -/
namespace Go.Proofs.YtobplngonkdbpaaGreatDoor.D
open Go.RowKit
open Go.Proofs.YtobplngonkdbpaaGreatDoor.B
set_option linter.unusedVariables false
set_option linter.unusedSimpArgs false
theorem sum_le {α : Type} {f g : α -> Nat} : ∀ {l : List α}, (∀ a ∈ l, f a <= g a) -> (l.map f).sum <= (l.map g).sum
 | [], _ => Nat.le_refl _
 | a :: l, h => by
  have h1 := h a (by simp)
  have h2 := sum_le (l := l) (fun b hb => h b (by simp [hb]))
  simp only [List.map_cons, List.sum_cons]; omega
theorem mem_sum {α : Type} {f : α -> Nat} : ∀ {l : List α} {a : α}, a ∈ l -> f a <= (l.map f).sum
 | x :: l, a, h => by
  rcases List.mem_cons.1 h with rfl | h
  · simp
  ·
   have := mem_sum (f := f) h
   simp only [List.map_cons, List.sum_cons]; omega
theorem sum_lin {α : Type} (f : α -> Nat) (k c : Nat) : ∀ l : List α, (l.map fun a => k * f a + c).sum = k * (l.map f).sum + c * l.length
 | [] => by simp
 | a :: l => by simp only [List.map_cons, List.sum_cons, sum_lin f k c l, List.length_cons, Nat.mul_add]; omega
def wI (it : Item) : Nat := (itemL it).length + 1
theorem showI_len : ∀ l : List Item, (showI l).length = (l.map wI).sum
 | [] => rfl
 | it :: l => by
  rw [show showI (it :: l) = (itemL it ++ [10]) ++ showI l from rfl, List.length_append, showI_len l]; simp [wI]
theorem quote_len (s : Bs) : (quoteL s).length <= 4 * s.length + 2 := by
 have := inner_len s
 simp only [quoteL, List.length_cons, List.length_append, List.length_singleton, List.length_nil]; omega
theorem item_len (it : Item) : wI it <= lenS (itemWs it) + 1 := Nat.add_le_add_right (joinC_len 32 _) 1
theorem lenS_map {α : Type} (f : α -> Bs) (l : List α) : lenS (l.map f) = (l.map fun a => (f a).length + 1).sum := by simp [lenS, List.map_map]; rfl
theorem nd_len (c : Nd) (h : c.ok) : (ndW c).length <= 160 := by
 obtain ⟨h1, h2, h3, h4, h5, h6, h7, h8, h9, h10⟩ := h
 have hb : 0 <= bitI c.inj /\ bitI c.inj <= 1 := by unfold bitI; split <;> omega
 have l1 := itoa_len (small_inR h1 (by omega))
 have l2 := itoa_len h3
 have l3 := itoa_len (small_inR (show -128 <= bitI c.inj by omega) (by omega))
 have l4 := itoa_len (small_inR (show -128 <= c.head by omega) h5)
 have l5 := itoa_len h6
 have l6 := itoa_len (small_inR (show -128 <= c.from_ by omega) h8)
 have l7 := itoa_len (small_inR (show -128 <= c.to_ by omega) h10)
 have := joinC_len 46 (ndWs c)
 unfold ndW
 simp only [ndWs, lenS, List.map_cons, List.map_nil, List.sum_cons, List.sum_nil] at this ⊢
 omega
theorem names_len : ∀ w ∈ opNames, w.length <= 6 := by decide
theorem op_len (op : Int) (h0 : -128 <= op) (h1 : op <= 127) : (opW op).length <= 22 := by
 unfold opW
 split
 ·
  have := itoa_len (small_inR h0 (by omega))
  simp only [List.length_cons]; omega
 ·
  rename_i hn
  have := names_len _ (nameV_mem hn)
  omega
theorem show_len {c : Cod} (h : c.ok) : (showV c).length <= 400 * mC c := by
 obtain ⟨h1, h2, h3⟩ := h
 unfold showV items mC
 rw [showI_len]
 simp only [List.map_append, List.sum_append, List.map_map]
 have a1 : (c.nums.map (wI ∘ Item.num)).sum <= 30 * c.nums.length := by
  have := sum_le (f := wI ∘ Item.num) (g := fun _ : Int => 0 * (fun _ : Int => 0) 0 + 30) (l := c.nums) fun n hn => by
   have := item_len (.num n)
   have := itoa_len (h3 n hn)
   simp only [itemWs, lenS, List.map_cons, List.map_nil, List.sum_cons, List.sum_nil, kNum, List.length_cons, List.length_nil, Function.comp] at *
   omega
  have e := sum_lin (fun _ : Int => 0) 0 30 c.nums
  simp only [Nat.zero_mul, Nat.zero_add] at this e
  omega
 have tx : ∀ (f : Bs -> Item) (hf : ∀ x, lenS (itemWs (f x)) <= 4 * x.length + 8) (l : List Bs), (l.map (wI ∘ f)).sum <= 9 * mT l := fun f hf l => by
  have := sum_le (f := wI ∘ f) (g := fun x : Bs => 4 * x.length + 9) (l := l) fun x hx => by
   have := item_len (f x)
   have := hf x
   simp only [Function.comp]; omega
  have e := Nat.le_trans this (Nat.le_of_eq (sum_lin (List.length : Bs -> Nat) 4 9 l))
  unfold mT; omega
 have a2 := tx Item.text (fun x => by have := quote_len x; simp only [itemWs, lenS, List.map_cons, List.map_nil, List.sum_cons, List.sum_nil, kText, List.length_cons, List.length_nil]; omega) c.texts
 have a3 := tx Item.type (fun x => by have := quote_len x; simp only [itemWs, lenS, List.map_cons, List.map_nil, List.sum_cons, List.sum_nil, kType, List.length_cons, List.length_nil]; omega) c.types
 have a4 : (c.casts.map (wI ∘ fun w : Wt => Item.cast w.f w.t w.co)).sum <= 200 * (c.casts.map mW).sum + 20 * c.casts.length := by
  have := sum_le (f := wI ∘ fun w : Wt => Item.cast w.f w.t w.co) (g := fun w : Wt => 200 * mW w + 20) (l := c.casts) fun w hw => by
   have i1 := item_len (.cast w.f w.t w.co)
   have q1 := quote_len w.f
   have q2 := quote_len w.t
   have q3 : lenS (w.co.map ndW) <= 161 * w.co.length := by
    rw [lenS_map]
    have := sum_le (f := fun a => (ndW a).length + 1) (g := fun _ : Nd => 0 * (fun _ : Nd => 0) ⟨0, 0, false, 0, 0, 0, 0⟩ + 161) (l := w.co) fun a ha => by have := nd_len a (h2 w hw a ha); omega
    have e := sum_lin (fun _ : Nd => 0) 0 161 w.co
    simp only [Nat.zero_mul, Nat.zero_add] at this e
    omega
   have e : lenS (itemWs (.cast w.f w.t w.co)) = 5 + ((quoteL w.f).length + 1) + ((quoteL w.t).length + 1) + lenS (w.co.map ndW) := by
    simp only [itemWs, lenS_cons]; simp [kCast]; omega
   simp only [Function.comp, mW]; omega
  have e := sum_lin mW 200 20 c.casts
  omega
 have a5 : ((c.fns.flatMap fuItems).map wI).sum <= 200 * (c.fns.map mF).sum + 30 * c.fns.length := by
  have e0 : ((c.fns.flatMap fuItems).map wI).sum = (c.fns.map fun f => ((fuItems f).map wI).sum).sum := by
   clear a1 a2 a3 a4 h1 h2 h3
   induction c.fns with
   | nil => rfl
   | cons f l ih => rw [List.flatMap_cons, List.map_append, List.sum_append, ih]; rfl
  rw [e0]
  have := sum_le (f := fun f => ((fuItems f).map wI).sum) (g := fun f : Fu => 200 * mF f + 30) (l := c.fns) fun f hf => by
   have i1 := item_len (.fn f.env f.param f.res)
   have q1 := quote_len f.param
   have q2 := quote_len f.res
   have q3 : lenS (f.env.map quoteL) <= 4 * mT f.env := by
    rw [lenS_map]
    have := sum_le (f := fun a => (quoteL a).length + 1) (g := fun a : Bs => 4 * a.length + 3) (l := f.env) fun a ha => by have := quote_len a; omega
    have e := Nat.le_trans this (Nat.le_of_eq (sum_lin (List.length : Bs -> Nat) 4 3 f.env))
    unfold mT; omega
   have e : lenS (itemWs (.fn f.env f.param f.res)) = 3 + (lenS (f.env.map quoteL) + (2 + ((quoteL f.param).length + 1) + ((quoteL f.res).length + 1))) := by
    simp only [itemWs, lenS_cons, lenS_app]; simp [kFn, lenS]; omega
   have q4 : ((f.code.map fun i => Item.ins i.op i.a i.b).map wI).sum <= 80 * f.code.length := by
    rw [List.map_map]
    have := sum_le (f := wI ∘ fun i : In => Item.ins i.op i.a i.b) (g := fun _ : In => 0 * (fun _ : In => 0) ⟨0, 0, 0⟩ + 80) (l := f.code) fun i hi => by
     obtain ⟨o1, o2, o3, o4⟩ := h1 f hf i hi
     have j1 := item_len (.ins i.op i.a i.b)
     have j2 := op_len i.op o1 o2
     have j3 := itoa_len o3
     have j4 := itoa_len o4
     simp only [itemWs, lenS, List.map_cons, List.map_nil, List.sum_cons, List.sum_nil, List.length_nil, Function.comp] at *
     omega
    have e := sum_lin (fun _ : In => 0) 0 80 f.code
    simp only [Nat.zero_mul, Nat.zero_add] at this e
    omega
   simp only [fuItems, List.map_cons, List.sum_cons, mF]
   omega
  have e := sum_lin mF 200 30 c.fns
  omega
 omega
/-- Code that counts little. -/
theorem small_bounds {L : CoL} (hm : mC L.code <= 1048576) : CB L /\ (∀ x, (x ∈ L.texts \/ x ∈ L.types \/ (∃ g ∈ L.fns, x ∈ g.f.env \/ x = g.f.param \/ x = g.f.res) \/ (∃ g ∈ L.casts, x = g.w.f \/ x = g.w.t)) -> x.length <= 1073741824) := by
 unfold mC at hm
 have e1 : L.code.fns.length = L.fns.length := by simp [CoL.code]
 have e2 : L.code.casts.length = L.casts.length := by simp [CoL.code]
 have e3 : L.code.nums = L.nums := rfl
 have e4 : L.code.texts = L.texts := rfl
 have e5 : L.code.types = L.types := rfl
 rw [e1, e2, e3, e4, e5] at hm
 have hf : ∀ g ∈ L.fns, mF g.f <= 1048576 := fun g hg => by
  have := mem_sum (f := mF) (l := L.code.fns) (a := g.f) (by simp only [CoL.code, List.mem_map]; exact ⟨g, hg, rfl⟩)
  omega
 have hc : ∀ g ∈ L.casts, mW g.w <= 1048576 := fun g hg => by
  have := mem_sum (f := mW) (l := L.code.casts) (a := g.w) (by simp only [CoL.code, List.mem_map]; exact ⟨g, hg, rfl⟩)
  omega
 have ht : ∀ (l : List Bs), mT l <= 1048576 -> l.length <= 1048576 /\ ∀ x ∈ l, x.length <= 1048576 := fun l h => ⟨by unfold mT at h; omega, fun x hx => by have := mem_sum (f := (List.length : Bs -> Nat)) hx; unfold mT at h; omega⟩
 obtain ⟨t1, t2⟩ := ht L.texts (by omega)
 obtain ⟨y1, y2⟩ := ht L.types (by omega)
 have hfe : ∀ g ∈ L.fns, g.f.env.length <= 1048576 /\ (∀ x ∈ g.f.env, x.length <= 1048576) /\ g.f.param.length <= 1048576 /\ g.f.res.length <= 1048576 /\ g.f.code.length <= 1048576 := fun g hg => by
  have h := hf g hg
  have h2 : mT g.f.env <= 1048576 := by unfold mF at h; omega
  obtain ⟨z1, z2⟩ := ht _ h2
  unfold mF at h
  exact ⟨z1, z2, by omega, by omega, by omega⟩
 have hce : ∀ g ∈ L.casts, g.w.co.length <= 1048576 /\ g.w.f.length <= 1048576 /\ g.w.t.length <= 1048576 := fun g hg => by
  have h := hc g hg
  unfold mW at h
  exact ⟨by omega, by omega, by omega⟩
 refine ⟨⟨by omega, by omega, by omega, by omega, by omega, fun g hg => by have := (hfe g hg).1; omega, fun g hg => by have := (hfe g hg).2.2.2.2; omega, fun g hg => by have := (hce g hg).1; omega⟩, ?_⟩
 rintro x (hx | hx | ⟨g, hg, hx⟩ | ⟨g, hg, hx⟩)
 · have := t2 x hx; omega
 · have := y2 x hx; omega
 ·
  obtain ⟨z1, z2, z3, z4, z5⟩ := hfe g hg
  rcases hx with hx | rfl | rfl
  · have := z2 x hx; omega
  · omega
  · omega
 ·
  obtain ⟨z1, z2, z3⟩ := hce g hg
  rcases hx with rfl | rfl <;> omega
theorem szV_le (c : Cod) : szV c <= mC c := by
 unfold szV mC
 have := sum_le (f := fun f : Fu => f.code.length) (g := mF) (l := c.fns) fun f hf => by unfold mF; omega
 omega
end Go.Proofs.YtobplngonkdbpaaGreatDoor.D
