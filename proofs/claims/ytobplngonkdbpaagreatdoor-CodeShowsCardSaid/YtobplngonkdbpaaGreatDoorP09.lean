/- Parts of this claim: CeX, CeY, CfA. -/
import Derived.Test.YtobplngonkdbpaaGreatDoorP08
import Derived.Test.YtobplngonkdbpaaGreatDoorP05
set_option linter.unusedVariables false
set_option linter.unusedSimpArgs false
/- CeX -/
namespace Go.Proofs.YtobplngonkdbpaaGreatDoor.D
open Go.RowKit
open Go.Proofs.YtobplngonkdbpaaGreatDoor.B
set_option linter.unusedVariables false
set_option linter.unusedSimpArgs false
def NodeQ (cf : Nat) (s : Bs) (g : Bool) (w : World) (e : Ending) (w' : World) : Prop :=
 ∃ c : Nd, e = .returned (.agg (ndC c).toArray) /\ c.ok /\ (∀ t, ndV s = some t -> c = t) /\ Blk w' cf 141 #[.bool (g && (ndV s).isSome)] /\ But (fun k => k = cf) w w'
def ndZ : Nd := ⟨0, 0, false, 0, 0, 0, 0⟩
theorem ndV_short {s : Bs} (h : (splitC 46 s).length ≠ 7) : ndV s = none := by
 unfold ndV
 split
 · rename_i he; rw [he] at h; exact absurd rfl h
 · rfl
/-- The node that seven numbers make. -/
def nd7 (a b c d e f g : Int) : Nd := ⟨IntKind.i8.wrap a, b, c == 1, IntKind.u8.wrap d, e, IntKind.u8.wrap f, IntKind.u8.wrap g⟩
theorem nd7_ok {a b c d e f g : Int} (hb : inR b) (he : inR e) : (nd7 a b c d e f g).ok :=
 ⟨(wrap_i8 a).1, (wrap_i8 a).2, hb, (wrap_u8 d).1, (wrap_u8 d).2, he, (wrap_u8 f).1, (wrap_u8 f).2, (wrap_u8 g).1, (wrap_u8 g).2⟩
theorem nd7_V {s p0 p1 p2 p3 p4 p5 p6 : Bs} (hs : splitC 46 s = [p0, p1, p2, p3, p4, p5, p6]) {a b c d e f g : Int}
  (ha : ∀ v, numB (-128) 127 p0 = some v -> a = v) (hb : ∀ v, numB (-9223372036854775808) 9223372036854775807 p1 = some v -> b = v) (hc : ∀ v, numB 0 1 p2 = some v -> c = v) (hd : ∀ v, numB 0 255 p3 = some v -> d = v)
  (he : ∀ v, numB (-9223372036854775808) 9223372036854775807 p4 = some v -> e = v) (hf : ∀ v, numB 0 255 p5 = some v -> f = v) (hg : ∀ v, numB 0 255 p6 = some v -> g = v) :
  (∀ t, ndV s = some t -> nd7 a b c d e f g = t) /\ (ndV s).isSome = ((numB (-128) 127 p0).isSome && (numB (-9223372036854775808) 9223372036854775807 p1).isSome && (numB 0 1 p2).isSome && (numB 0 255 p3).isSome && (numB (-9223372036854775808) 9223372036854775807 p4).isSome && (numB 0 255 p5).isSome && (numB 0 255 p6).isSome) := by
 rw [numB_all] at hb he
 rw [numB_all, numB_all]
 unfold ndV
 rw [hs]
 simp only
 rcases h0 : numB (-128) 127 p0 with _ | v0
 · exact ⟨fun t h => by (clear ha hb hc hd he hf hg; split at h <;> simp_all), by simp⟩
 rcases h1 : numV p1 with _ | v1
 · exact ⟨fun t h => by (clear ha hb hc hd he hf hg; split at h <;> simp_all), by simp⟩
 rcases h2 : numB 0 1 p2 with _ | v2
 · exact ⟨fun t h => by (clear ha hb hc hd he hf hg; split at h <;> simp_all), by simp⟩
 rcases h3 : numB 0 255 p3 with _ | v3
 · exact ⟨fun t h => by (clear ha hb hc hd he hf hg; split at h <;> simp_all), by simp⟩
 rcases h4 : numV p4 with _ | v4
 · exact ⟨fun t h => by (clear ha hb hc hd he hf hg; split at h <;> simp_all), by simp⟩
 rcases h5 : numB 0 255 p5 with _ | v5
 · exact ⟨fun t h => by (clear ha hb hc hd he hf hg; split at h <;> simp_all), by simp⟩
 rcases h6 : numB 0 255 p6 with _ | v6
 · exact ⟨fun t h => by (clear ha hb hc hd he hf hg; split at h <;> simp_all), by simp⟩
 refine ⟨fun t h => ?_, by simp⟩
 simp only at h
 injection h with h
 subst h
 rw [ha v0 h0, hb v1 h1, hc v2 h2, hd v3 h3, he v4 h4, hf v5 h5, hg v6 h6]
 obtain ⟨_, _, k1, k2⟩ := numB_some h0
 obtain ⟨_, _, k3, k4⟩ := numB_some h3
 obtain ⟨_, _, k5, k6⟩ := numB_some h5
 obtain ⟨_, _, k7, k8⟩ := numB_some h6
 unfold nd7
 rw [IntWalk.i8_in _ ⟨k1, k2⟩, IntWalk.u8_in _ ⟨k3, k4⟩, IntWalk.u8_in _ ⟨k5, k6⟩, IntWalk.u8_in _ ⟨k7, k8⟩]
theorem len7 {l : List Bs} (h : l.length = 7) : ∃ a b c d e f g, l = [a, b, c, d, e, f, g] := by
 match l, h with
 | [a, b, c, d, e, f, g], _ => exact ⟨a, b, c, d, e, f, g, rfl⟩
set_option maxRecDepth 100000 in
set_option maxHeartbeats 2000000 in
theorem nodeF_c (cf : Nat) (s : Bs) (g : Bool) (w : World) (hl : s.length <= 1073741824) (hg : Gl w) (hb : Blk w cf 141 #[.bool g]) (h8 : 8 <= cf) :
  Calls Tryz.prog 104 #[.pointer (some ⟨cf, 0, none⟩), strV s] w fun e w' => NodeQ cf s g w e w' := by
 have HG := Lib.hid hg
 have HB := Lib.hid hb
 have hcf := hb.lt
 have c0 := (hb.cell 0).trans rfl
 have z0 := hb.frozen 0
 simp only [List.getElem?_toArray, List.getElem?_cons_zero] at c0
 have HSP := Lib.hid (fun W (h : Below w.heap.size w W) => split_c s 46 W hl (hg.on h))
 obtain ⟨N, hN⟩ : ∃ N, (splitC 46 s).length = N := ⟨_, rfl⟩
 have hcount := splitC_count 46 s
 have hlens := Lib.hid (splitC_len 46 s)
 rw [hN] at HSP hcount
 clear hg hb
 go_enter Tryz.func104, Tryz.ntmps104
 go_wp2_with fail
 (refine (HSP.out _ (bal (bal (Below.refl _ _) _) _)).mono ?_); rintro ev w1 ⟨rfl, rfl⟩
 clear HSP
 obtain ⟨b, hbs⟩ : ∃ b, w.heap.size = b := ⟨_, rfl⟩
 have hcfb : cf < b := by omega
 obtain ⟨W1, hW1⟩ : ∃ W1, ((w.alloc (.cells #[.pointer (some ⟨cf, 0, none⟩)] 139)).alloc (.cells #[.int .i8 0, .int .i64 0, .bool false, .int .u8 0, .int .i64 0, .int .u8 0, .int .u8 0] 86)).alloc (.cells ((splitC 46 s).map strV).toArray 9) = W1 := ⟨_, rfl⟩
 have hb1 : Below w.heap.size w W1 := by rw [<- hW1]; exact bal (bal (bal (Below.refl _ _) _) _) _
 have k0 : Blk W1 b 139 #[.pointer (some ⟨cf, 0, none⟩)] := by rw [<- hW1, <- hbs]; exact ((Blk.new _ _ _).alloc _).alloc _
 have k1 : Blk W1 (b + 1) 86 #[.int .i8 0, .int .i64 0, .bool false, .int .u8 0, .int .i64 0, .int .u8 0, .int .u8 0] := by
  rw [<- hW1, <- hbs, show w.heap.size + 1 = (w.alloc (.cells #[.pointer (some ⟨cf, 0, none⟩)] 139)).heap.size from (World.size_alloc _ _).symm]; exact (Blk.new _ _ _).alloc _
 have k2 : Blk W1 (b + 1 + 1) 9 ((splitC 46 s).map strV).toArray := by
  rw [<- hW1, <- hbs]
  have := Blk.new ((w.alloc (.cells #[.pointer (some ⟨cf, 0, none⟩)] 139)).alloc (.cells #[.int .i8 0, .int .i64 0, .bool false, .int .u8 0, .int .i64 0, .int .u8 0, .int .u8 0] 86)) 9 ((splitC 46 s).map strV).toArray
  simpa only [World.size_alloc] using this
 have k3 : Blk W1 cf 141 #[.bool g] := HB.out.below hb1 hcf
 have c1 := (k3.cell 0).trans rfl
 have z1 := k3.frozen 0
 have c2 := (k0.cell 0).trans rfl
 simp only [List.getElem?_toArray, List.getElem?_cons_zero] at c1 c2
 simp only [World.size_alloc]
 rw [hW1, hbs]
 clear hW1 c0 z0
 by_cases h7 : N = 7
 ·
  subst h7
  obtain ⟨p0, p1, p2, p3, p4, p5, p6, hps⟩ := len7 hN
  rw [hps] at k2
  have HPS := Lib.hid hps
  clear hN hps
  have HL := Lib.hid (show ∀ p ∈ [p0, p1, p2, p3, p4, p5, p6], p.length <= 1073741824 from fun p hp => Nat.le_trans (hlens.out p (by rw [HPS.out]; exact hp)) hl)
  have HG1 := Lib.hid (HG.out.on hb1)
  have HS := Lib.hid (show ∀ W', But (fun k => k = cf \/ k = b + 1) W1 W' -> But (fun k => k = cf \/ k = b + 1) W1 W' /\ W'.cell? ⟨b, 0, none⟩ = some (.pointer (some ⟨cf, 0, none⟩)) /\ W'.cell? ⟨b + 1 + 1, 0, none⟩ = some (strV p0) /\ W'.cell? ⟨b + 1 + 1, 1, none⟩ = some (strV p1) /\ W'.cell? ⟨b + 1 + 1, 2, none⟩ = some (strV p2) /\ W'.cell? ⟨b + 1 + 1, 3, none⟩ = some (strV p3) /\ W'.cell? ⟨b + 1 + 1, 4, none⟩ = some (strV p4) /\ W'.cell? ⟨b + 1 + 1, 5, none⟩ = some (strV p5) /\ W'.cell? ⟨b + 1 + 1, 6, none⟩ = some (strV p6) from fun W' hw => by
   have q0 : Blk W' b 139 #[.pointer (some ⟨cf, 0, none⟩)] := (hw.block b k0.lt (by omega)).trans k0
   have q2 : Blk W' (b + 1 + 1) 9 ([p0, p1, p2, p3, p4, p5, p6].map strV).toArray := (hw.block (b + 1 + 1) k2.lt (by omega)).trans k2
   exact ⟨hw, (q0.cell 0).trans rfl, (q2.cell 0).trans rfl, (q2.cell 1).trans rfl, (q2.cell 2).trans rfl, (q2.cell 3).trans rfl, (q2.cell 4).trans rfl, (q2.cell 5).trans rfl, (q2.cell 6).trans rfl⟩)
  have F : Hid (inR 0 /\ True /\ Blk W1.drew cf 141 #[.bool g] /\ But (fun k => k = cf) W1 W1.drew) := Lib.hid ⟨⟨by decide, by decide⟩, trivial, k3.drew, (But.refl _ _).drewN 1⟩
  have HK1 := Lib.hid (And.intro k1 (And.intro hbs hb1))
  go_upto_region 6 with fail
  clear k0 k1 k2 k3 hb1 hbs c1 z1 c2
  refine wp_region_held_drew (S := (fun W' => But (fun k => k = cf \/ k = b + 1) W1 W' /\ W'.cell? ⟨b, 0, none⟩ = some (.pointer (some ⟨cf, 0, none⟩)) /\ W'.cell? ⟨b + 1 + 1, 0, none⟩ = some (strV p0) /\ W'.cell? ⟨b + 1 + 1, 1, none⟩ = some (strV p1) /\ W'.cell? ⟨b + 1 + 1, 2, none⟩ = some (strV p2) /\ W'.cell? ⟨b + 1 + 1, 3, none⟩ = some (strV p3) /\ W'.cell? ⟨b + 1 + 1, 4, none⟩ = some (strV p4) /\ W'.cell? ⟨b + 1 + 1, 5, none⟩ = some (strV p5) /\ W'.cell? ⟨b + 1 + 1, 6, none⟩ = some (strV p6))) (by kernel_rfl) ?ss1 (fun hHeld => ?rr1)
  case ss1 => (try dsimp only); exact HS.out _ ((But.refl _ _).drewN 1)
  refine rgt 0 17 rfl rfl hHeld ?_
  try simp only [Act.put, rg1, rg2, rg3]
  refine rgt 1 18 rfl rfl hHeld ?_
  try simp only [Act.put, rg1, rg2, rg3]
  refine rgt 2 19 rfl rfl hHeld ?_
  try simp only [Act.put, rg1, rg2, rg3]
  refine rgt 3 20 rfl rfl hHeld ?_
  try simp only [Act.put, rg1, rg2, rg3]
  refine rgt 6 23 rfl rfl hHeld ?_
  try simp only [Act.put, rg1, rg2, rg3]
  refine rgt 7 24 rfl rfl hHeld ?_
  try simp only [Act.put, rg1, rg2, rg3]
  refine rgt 8 25 rfl rfl hHeld ?_
  try simp only [Act.put, rg1, rg2, rg3]
  refine rgt 9 26 rfl rfl hHeld ?_
  try simp only [Act.put, rg1, rg2, rg3]
  refine rgt 11 28 rfl rfl hHeld ?_
  try simp only [Act.put, rg1, rg2, rg3]
  refine rgt 12 29 rfl rfl hHeld ?_
  try simp only [Act.put, rg1, rg2, rg3]
  refine rgt 13 30 rfl rfl hHeld ?_
  try simp only [Act.put, rg1, rg2, rg3]
  refine rgt 14 31 rfl rfl hHeld ?_
  try simp only [Act.put, rg1, rg2, rg3]
  refine rgt 17 34 rfl rfl hHeld ?_
  try simp only [Act.put, rg1, rg2, rg3]
  refine rgt 18 35 rfl rfl hHeld ?_
  try simp only [Act.put, rg1, rg2, rg3]
  refine rgt 19 36 rfl rfl hHeld ?_
  try simp only [Act.put, rg1, rg2, rg3]
  refine rgt 20 37 rfl rfl hHeld ?_
  try simp only [Act.put, rg1, rg2, rg3]
  refine rgt 22 39 rfl rfl hHeld ?_
  try simp only [Act.put, rg1, rg2, rg3]
  refine rgt 23 40 rfl rfl hHeld ?_
  try simp only [Act.put, rg1, rg2, rg3]
  refine rgt 24 41 rfl rfl hHeld ?_
  try simp only [Act.put, rg1, rg2, rg3]
  refine rgt 25 42 rfl rfl hHeld ?_
  try simp only [Act.put, rg1, rg2, rg3]
  refine rgt 27 44 rfl rfl hHeld ?_
  try simp only [Act.put, rg1, rg2, rg3]
  refine rgt 28 45 rfl rfl hHeld ?_
  try simp only [Act.put, rg1, rg2, rg3]
  refine rgt 29 46 rfl rfl hHeld ?_
  try simp only [Act.put, rg1, rg2, rg3]
  refine rgt 30 47 rfl rfl hHeld ?_
  try simp only [Act.put, rg1, rg2, rg3]
  refine rgt 32 49 rfl rfl hHeld ?_
  try simp only [Act.put, rg1, rg2, rg3]
  refine rgt 33 50 rfl rfl hHeld ?_
  try simp only [Act.put, rg1, rg2, rg3]
  refine rgt 34 51 rfl rfl hHeld ?_
  try simp only [Act.put, rg1, rg2, rg3]
  refine rgt 35 52 rfl rfl hHeld ?_
  try simp only [Act.put, rg1, rg2, rg3]
  refine rgc 4 (some 21) rfl (fun K hK => ?_)
  go_simp
  ((refine (number_c cf p0 (-128) 127 _ _ (HL.out p0 (by simp)) (gl_but HG1.out h8 F.out.2.2.2) F.out.2.2.1 h8).mono ?_); rintro e w2 ⟨n0, rfl, hn, hv, hk, hb⟩; have F0 := Lib.hid (And.intro hn (And.intro hv (And.intro hk (but_next F.out.2.2.2 hb)))); clear hn hv hk hb)
  refine hK.out _ _ ?ss30 (fun hHeld2 => ?rr30)
  case ss30 => (try dsimp only); exact HS.out _ (but_weak F0.out.2.2.2 fun _ _ e => .inl e)
  clear hK K
  clear hHeld
  have hHeld := hHeld2
  clear hHeld2
  try simp only [Act.put, rg1, rg2, rg3]
  refine rgt 5 22 rfl rfl hHeld ?_
  try simp only [Act.put, rg1, rg2, rg3]
  refine rgc 10 (some 27) rfl (fun K hK => ?_)
  go_simp
  ((refine (any_c cf p1 _ _ (HL.out p1 (by simp)) (gl_but HG1.out h8 F0.out.2.2.2) F0.out.2.2.1 h8).mono ?_); rintro e w3 ⟨n1, rfl, hn, hv, hk, hb⟩; have F1 := Lib.hid (And.intro hn (And.intro hv (And.intro hk (but_next F0.out.2.2.2 hb)))); clear hn hv hk hb)
  refine hK.out _ _ ?ss32 (fun hHeld2 => ?rr32)
  case ss32 => (try dsimp only); exact HS.out _ (but_weak F1.out.2.2.2 fun _ _ e => .inl e)
  clear hK K
  clear hHeld
  have hHeld := hHeld2
  clear hHeld2
  try simp only [Act.put, rg1, rg2, rg3]
  refine rgc 15 (some 32) rfl (fun K hK => ?_)
  go_simp
  ((refine (number_c cf p2 0 1 _ _ (HL.out p2 (by simp)) (gl_but HG1.out h8 F1.out.2.2.2) F1.out.2.2.1 h8).mono ?_); rintro e w4 ⟨n2, rfl, hn, hv, hk, hb⟩; have F2 := Lib.hid (And.intro hn (And.intro hv (And.intro hk (but_next F1.out.2.2.2 hb)))); clear hn hv hk hb)
  refine hK.out _ _ ?ss33 (fun hHeld2 => ?rr33)
  case ss33 => (try dsimp only); exact HS.out _ (but_weak F2.out.2.2.2 fun _ _ e => .inl e)
  clear hK K
  clear hHeld
  have hHeld := hHeld2
  clear hHeld2
  try simp only [Act.put, rg1, rg2, rg3]
  refine rgt 16 33 rfl rfl hHeld ?_
  try simp only [Act.put, rg1, rg2, rg3]
  refine rgc 21 (some 38) rfl (fun K hK => ?_)
  go_simp
  ((refine (head_c cf b p3 _ _ (HL.out p3 (by simp)) (gl_but HG1.out h8 F2.out.2.2.2) F2.out.2.2.1 h8 (HS.out _ (but_weak F2.out.2.2.2 fun _ _ e => .inl e)).2.1).mono ?_); rintro e w5 ⟨n3, rfl, hn, hv, hk, hb⟩; have F3 := Lib.hid (And.intro hn (And.intro hv (And.intro hk (but_next F2.out.2.2.2 hb)))); clear hn hv hk hb)
  refine hK.out _ _ ?ss35 (fun hHeld2 => ?rr35)
  case ss35 => (try dsimp only); exact HS.out _ (but_weak F3.out.2.2.2 fun _ _ e => .inl e)
  clear hK K
  clear hHeld
  have hHeld := hHeld2
  clear hHeld2
  try simp only [Act.put, rg1, rg2, rg3]
  refine rgc 26 (some 43) rfl (fun K hK => ?_)
  go_simp
  ((refine (any_c cf p4 _ _ (HL.out p4 (by simp)) (gl_but HG1.out h8 F3.out.2.2.2) F3.out.2.2.1 h8).mono ?_); rintro e w6 ⟨n4, rfl, hn, hv, hk, hb⟩; have F4 := Lib.hid (And.intro hn (And.intro hv (And.intro hk (but_next F3.out.2.2.2 hb)))); clear hn hv hk hb)
  refine hK.out _ _ ?ss36 (fun hHeld2 => ?rr36)
  case ss36 => (try dsimp only); exact HS.out _ (but_weak F4.out.2.2.2 fun _ _ e => .inl e)
  clear hK K
  clear hHeld
  have hHeld := hHeld2
  clear hHeld2
  try simp only [Act.put, rg1, rg2, rg3]
  refine rgc 31 (some 48) rfl (fun K hK => ?_)
  go_simp
  ((refine (head_c cf b p5 _ _ (HL.out p5 (by simp)) (gl_but HG1.out h8 F4.out.2.2.2) F4.out.2.2.1 h8 (HS.out _ (but_weak F4.out.2.2.2 fun _ _ e => .inl e)).2.1).mono ?_); rintro e w7 ⟨n5, rfl, hn, hv, hk, hb⟩; have F5 := Lib.hid (And.intro hn (And.intro hv (And.intro hk (but_next F4.out.2.2.2 hb)))); clear hn hv hk hb)
  refine hK.out _ _ ?ss37 (fun hHeld2 => ?rr37)
  case ss37 => (try dsimp only); exact HS.out _ (but_weak F5.out.2.2.2 fun _ _ e => .inl e)
  clear hK K
  clear hHeld
  have hHeld := hHeld2
  clear hHeld2
  try simp only [Act.put, rg1, rg2, rg3]
  refine rgc 36 (some 53) rfl (fun K hK => ?_)
  go_simp
  ((refine (head_c cf b p6 _ _ (HL.out p6 (by simp)) (gl_but HG1.out h8 F5.out.2.2.2) F5.out.2.2.1 h8 (HS.out _ (but_weak F5.out.2.2.2 fun _ _ e => .inl e)).2.1).mono ?_); rintro e w8 ⟨n6, rfl, hn, hv, hk, hb⟩; have F6 := Lib.hid (And.intro hn (And.intro hv (And.intro hk (but_next F5.out.2.2.2 hb)))); clear hn hv hk hb)
  refine hK.out _ _ ?ss38 (fun hHeld2 => ?rr38)
  case ss38 => (try dsimp only); exact HS.out _ (but_weak F6.out.2.2.2 fun _ _ e => .inl e)
  clear hK K
  clear hHeld
  have hHeld := hHeld2
  clear hHeld2
  try simp only [Act.put, rg1, rg2, rg3]
  refine rgt 37 54 rfl rfl hHeld ?_
  try simp only [Act.put, rg1, rg2, rg3]
  refine rgc 38 (none) rfl (fun K hK => ?_)
  (refine step_store_row rfl 86 (.tmp 4) (.tmp 54) rfl (b + 1) (ndC (nd7 n0 n1 n2 n3 n4 n5 n6)).toArray rfl rfl 86 _ ((F6.out.2.2.2.block _ HK1.out.1.lt (by omega)).trans HK1.out.1) (by kernel_rfl) rfl (by kernel_rfl) ?_)
  refine hK.out _ _ ?ss40 (fun hHeld2 => ?rr40)
  case ss40 => (try dsimp only); exact HS.out _ (but_setRow (but_weak F6.out.2.2.2 fun _ _ e => .inl e) (.inl (.inr rfl)) _)
  clear hK K
  clear hHeld
  have hHeld := hHeld2
  clear hHeld2
  try simp only [Act.put, rg1, rg2, rg3]
  refine wpAnyH_done (by kernel_rfl) ?_ _
  (try go_wp2_with fail)
  (try simp only [Exit.inBlock, Exit.then])
  refine bodyPost_ret (results_cell_row rfl _ _ (b + 1) 86 (ndC (nd7 n0 n1 n2 n3 n4 n5 n6)).toArray (0, 0) _ rfl (setRow_heap _ _ _ _ _ _ ((F6.out.2.2.2.block _ HK1.out.1.lt (by omega)).trans HK1.out.1)) Tryz.underlying86 rfl (by kernel_rfl)) rfl ?_
  obtain ⟨e1, e2⟩ := nd7_V HPS.out F0.out.2.1 F1.out.2.1 F2.out.2.1 F3.out.2.1 F4.out.2.1 F5.out.2.1 F6.out.2.1
  refine ⟨nd7 n0 n1 n2 n3 n4 n5 n6, rfl, nd7_ok F1.out.1 F4.out.1, e1, ?_, ?_⟩
  ·
   rw [e2]
   have h5 := F6.out.2.2.1
   simp only [Bool.and_assoc] at h5 ⊢
   exact (setRow_other _ _ _ _ (by omega)).trans h5
  ·
   refine but_setRow (But.trans (But.of_below HK1.out.2.2) F6.out.2.2.2 fun _ _ e => e) (.inr ?_) _
   have := HK1.out.2.1; omega
 ·
  have HN := Lib.hid hN
  have hu := ndV_short (s := s) (by rw [hN]; exact h7)
  have kz := k1.far (p := ⟨cf, 0, none⟩) (by simp only [ne_eq]; omega) (.bool false)
  have HK3 := Lib.hid k3
  have HB1 := Lib.hid hb1
  have HBS := Lib.hid hbs
  clear hN k0 k2 k3 k1 hb1 hbs
  go_wp2_with (refine wpList_store_row rfl 86 (.tmp 4) (.tmp 15) rfl (b + 1) (ndC ndZ).toArray rfl rfl 86 _ kz (by kernel_rfl) rfl (by kernel_rfl) ?_)
  (try simp only [Exit.inBlock, Exit.then])
  refine bodyPost_ret (results_cell_row rfl _ _ (b + 1) 86 (ndC ndZ).toArray (0, 0) _ rfl (setRow_heap _ _ _ _ _ _ kz) Tryz.underlying86 rfl (by kernel_rfl)) rfl ?_
  refine ⟨ndZ, rfl, by unfold Nd.ok ndZ inR; decide, (fun t ht => by rw [hu] at ht; cases ht), ?_, ?_⟩
  ·
   rw [hu]; simp only [Option.isSome_none, Bool.and_false]
   exact (setRow_other _ _ _ _ (by omega)).trans (blk_set1 HK3.out _)
  ·
   have h1 := but_set (C := fun k => k = cf) (But.of_below HB1.out) (b := cf) (i := 0) rfl (.bool false)
   exact but_setRow h1 (.inr (by have := HBS.out; omega)) _
end Go.Proofs.YtobplngonkdbpaaGreatDoor.D
/- CeY -/
namespace Go.Proofs.YtobplngonkdbpaaGreatDoor.D
open Go.RowKit
open Go.Proofs.YtobplngonkdbpaaGreatDoor.B
set_option linter.unusedVariables false
set_option linter.unusedSimpArgs false
def OpQ (cf : Nat) (s : Bs) (g : Bool) (w : World) (e : Ending) (w' : World) : Prop :=
 ∃ n, e = .returned (.int .i8 n) /\ (-128 <= n /\ n <= 127) /\ (∀ v, opV s = some v -> n = v) /\ Blk w' cf 141 #[.bool (g && (opV s).isSome)] /\ But (fun k => k = cf) w w'
theorem findN_at {w : Bs} : ∀ (l : List Bs) (i m : Nat), (∀ j, j < m -> l[j]? ≠ some w) -> l[m]? = some w -> findN w l i = some (i + m)
 | [], i, m, h, h2 => by simp at h2
 | v :: r, i, 0, h, h2 => by
  rw [List.getElem?_cons_zero] at h2
  injection h2 with h2
  rw [findN, if_pos h2]; rfl
 | v :: r, i, m + 1, h, h2 => by
  rw [findN, if_neg (fun e => h 0 (by omega) (by rw [List.getElem?_cons_zero, e])), findN_at r (i + 1) m (fun j hj => by have := h (j + 1) (by omega); rwa [List.getElem?_cons_succ] at this) (by rwa [List.getElem?_cons_succ] at h2)]
  congr 1; omega
def nm (k : Nat) : Bs := ([] :: opNames).getD k []
theorem names_nm {k : Nat} (hk : k < namesV.size) : namesV[k]'hk = .string ⟨(nm k).toArray⟩ := by
 have h : k < ([] :: opNames).length := hk
 simp only [namesV, List.getElem_toArray, List.getElem_map, nm]
 rw [List.getD_eq_getElem?_getD, List.getElem?_eq_getElem h]; rfl
theorem op_found {s : Bs} {k : Nat} (h1 : 1 <= k) (h2 : k < 24) (h : ∀ j, 1 <= j -> j < k -> nm j ≠ s) (he : nm k = s) : opV s = some (k : Int) := by
 obtain ⟨m, rfl⟩ : ∃ m, k = m + 1 := ⟨k - 1, by omega⟩
 have hl : opNames.length = 23 := rfl
 have key : ∀ j, j < 23 -> opNames[j]? = some (nm (j + 1)) := by
  intro j hj
  unfold nm
  rw [List.getD_cons_succ, List.getD_eq_getElem?_getD, List.getElem?_eq_getElem (by omega)]; rfl
 have hf := findN_at (w := s) opNames 1 m (fun j hj e => by rw [key j (by omega)] at e; injection e with e; exact h (j + 1) (by omega) (by omega) e) (by rw [key m (by omega), he])
 unfold opV
 rw [hf]
 simp only
 congr 1; omega
theorem op_none {s : Bs} (h : ∀ j, 1 <= j -> j < 24 -> nm j ≠ s) : findN s opNames 1 = none := by
 rw [findN_none]
 intro hm
 obtain ⟨j, hj, he⟩ := List.getElem_of_mem hm
 have hl : opNames.length = 23 := rfl
 refine h (j + 1) (by omega) (by omega) ?_
 unfold nm
 rw [List.getD_cons_succ, List.getD_eq_getElem?_getD, List.getElem?_eq_getElem hj]; exact he
theorem op_hash {s r : Bs} (h : findN s opNames 1 = none) (hs : s = 35 :: r) : opV s = (match numB (-128) 127 r with
      | some n => if nameV n = [] then some n else none
      | none => none) := by
 subst hs
 unfold opV
 rw [h]
 rcases hn : numB (-128) 127 r with _ | n <;> simp [hn]
theorem op_plain {s : Bs} (h : findN s opNames 1 = none) (hs : s.head? ≠ some 35) : opV s = none := by
 unfold opV
 rw [h]
 simp only
 split
 · rename_i r; exact absurd rfl hs
 · rfl
theorem op_end {s r : Bs} (h : findN s opNames 1 = none) (hs : s = 35 :: r) {n : Int} (hv : ∀ v, numB (-128) 127 r = some v -> n = v) :
  (∀ v, opV s = some v -> IntKind.i8.wrap n = v) /\ (opV s).isSome = ((numB (-128) 127 r).isSome && (nameV (IntKind.i8.wrap n) == [])) := by
 rw [op_hash h hs]
 rcases hn : numB (-128) 127 r with _ | m
 · simp
 ·
  have e := hv m hn
  obtain ⟨_, _, h1, h2⟩ := numB_some hn
  subst e
  rw [IntWalk.i8_in _ ⟨h1, h2⟩]
  by_cases hk : nameV n = []
  · simp [hk]
  · simp [hk]
theorem run_index_names (k : Nat) (hk : k < 24) (W : World) : (Instr.index 97 (.agg namesV) (.int .i64 k)).run Tryz.prog W = .ok (.string ⟨(nm k).toArray⟩) W := by
 obtain ⟨i0, hi0, hz0, hz1, hz2⟩ := info_parts info9
 have hsz : k < namesV.size := hk
 have h1 : (0 : Int) <= (k : Int) /\ (k : Int) < ((24 : Nat) : Int) := by omega
 have h3 : namesV[k]? = some (.string ⟨(nm k).toArray⟩) := by rw [Array.getElem?_eq_getElem hsz, names_nm]
 have ha : (isAgg 9).run Tryz.prog W = .ok false W := run_isAgg_plain Tryz.underlying9 rfl W
 simp [Instr.index, run_underlying Tryz.underlying97, asIntOf, h1, part, sizeOf, typeInfo, hi0, hz1, ha, h3, go_sem, hk]
theorem wpList_index_names {ops : Array Oper} {rest : List Oper} {o : Oper} {a : Act} {w : World} {Q : Exit -> Act -> World -> Prop} (hgd : o.guard = none) (x y : Operand) (ho : o.op = .index 97 x y) (k : Nat) (hk : k < 24)
  (hx : a.eval x = .agg namesV) (hy : a.eval y = .int .i64 k) (h : wpList Tryz.prog ops Q rest (a.put o.dst (.string ⟨(nm k).toArray⟩)) w) : wpList Tryz.prog ops Q (o :: rest) a w :=
 wpList_plain hgd fun K hK => by
  unfold Oper.wp execOp
  simp only [ho, hx, hy, Sem.run_bind, Sem.run_pure, run_index_names k hk, Result.andThen_ok]
  exact hK _ _ h
set_option maxRecDepth 100000 in
set_option maxHeartbeats 2000000 in
theorem op_c (cf : Nat) (s : Bs) (g : Bool) (w : World) (hl : s.length <= 1073741824) (hg : Gl w) (hb : Blk w cf 141 #[.bool g]) (h8 : 8 <= cf) :
  Calls Tryz.prog 105 #[.pointer (some ⟨cf, 0, none⟩), strV s] w fun e w' => OpQ cf s g w e w' := by
 have hn := names_p w
 have hsz := namesV_size
 have hcf := hb.lt
 have HG := Lib.hid hg
 have HB := Lib.hid hb
 have hzs := str_size s
 clear hg hb
 unfold strV
 go_enter Tryz.func105, Tryz.ntmps105
 go_wp2_with fail
 (refine hn.mono ?_); rintro ev w1 ⟨rfl, hb1⟩
 clear hn
 have HB1 := Lib.hid hb1
 clear hb1
 go_wp2_with fail
 go_loopg [9] 24 (fun gg i wr => ∃ k : Nat, k <= 24 /\ gg = 24 - k /\ i = .int .i64 k /\ wr = w1 /\ Hid (∀ j, 1 <= j -> j < k -> nm j ≠ s))
 case atStart => exact ⟨0, by omega, rfl, rfl, rfl, Lib.hid fun j h1 h2 => by omega⟩
 case round =>
  obtain ⟨k, hk, rfl, rfl, rfl, HJ⟩ := hrel
  by_cases hlt : k < 24
  ·
   have hnk : ∀ h : k < namesV.size, namesV[k]'h = .string ⟨(nm k).toArray⟩ := fun h => names_nm h
   by_cases hk0 : k = 0
   ·
    subst hk0
    go_wp2_with (refine wpList_index_names rfl (.tmp 8) (.tmp 9) rfl 0 hlt rfl rfl ?_)
    go_roundg 23
    case measure => omega
    case rel => exact ⟨1, by omega, rfl, by go_num, rfl, Lib.hid fun j h1 h2 => by omega⟩
   ·
    have hpos : 0 < k := by omega
    by_cases he : nm k = s
    ·
     have HE := Lib.hid he
     have hbe : (nm k == s) = true := by rw [he]; simp
     clear he
     go_wp2_with (refine wpList_index_names rfl (.tmp 8) (.tmp 9) rfl k hlt rfl rfl ?_)
     go_ret
     have ho := op_found hpos hlt HJ.out HE.out
     refine ⟨k, rfl, ⟨by omega, by omega⟩, (fun v hv => by rw [ho] at hv; injection hv), ?_, But.of_below HB1.out⟩
     rw [ho, Option.isSome_some, Bool.and_true]
     exact HB.out.below HB1.out hcf
    ·
     have hbe : (nm k == s) = false := by simpa using he
     have HE := Lib.hid he
     clear he
     go_wp2_with (refine wpList_index_names rfl (.tmp 8) (.tmp 9) rfl k hlt rfl rfl ?_)
     go_roundg (24 - (k + 1))
     case measure => omega
     case rel => exact ⟨k + 1, by omega, rfl, by go_num, rfl, Lib.hid fun j h1 h2 => by
      by_cases e : j = k
      · rw [e]; exact HE.out
      · exact HJ.out j h1 (by omega)⟩
  ·
   have hk24 : k = 24 := by omega
   subst hk24
   have hnone := op_none (s := s) HJ.out
   have hP := Tryz.strings_HasPrefix ⟨s.toArray⟩ ⟨#[35]⟩ wr
   rw [show (⟨s.toArray⟩ : ByteArray).data.toList = s from rfl, show (⟨#[35]⟩ : ByteArray).data.toList = [35] from rfl, prefix_eq] at hP
   have HNO := Lib.hid hnone
   have hbk := HB.out.below HB1.out hcf
   have c1 := (hbk.cell 0).trans rfl
   have z1 := hbk.frozen 0
   simp only [List.getElem?_toArray, List.getElem?_cons_zero] at c1
   have HBK := Lib.hid hbk
   clear hnone hbk
   by_cases hh : s.head? = some 35
   ·
    obtain ⟨r, hr⟩ : ∃ r, s = 35 :: r := by
     cases s with
     | nil => cases hh
     | cons x r => injection hh with hh; exact ⟨r, by rw [hh]⟩
    rw [show (s.head? == some 35) = true by rw [hh]; rfl] at hP
    have hext := ext_at s 1 s.length
    rw [show (s.drop 1).take (s.length - 1) = r by rw [hr]; simp] at hext
    have hlr : s.length = r.length + 1 := by rw [hr]; rfl
    have hN := number_c cf r (-128) 127 g wr (by omega) (HG.out.on HB1.out) HBK.out h8
    unfold NumQ at hN
    unfold strV at hN
    have HR := Lib.hid hr
    have HN := Lib.hid hN
    rw [hlr] at hzs hext
    clear hh hr hN
    go_wp2_with fail
    (refine hP.mono ?_); rintro ev w2 ⟨rfl, rfl⟩
    go_wp2_with fail
    (refine HN.out.mono ?_); rintro ev w3 ⟨n, rfl, hn, hv, hk3, hb3⟩
    have c3 := (hk3.cell 0).trans rfl
    have z3 := hk3.frozen 0
    simp only [List.getElem?_toArray, List.getElem?_cons_zero] at c3
    have hw := wrap_i8 n
    have HV := Lib.hid (And.intro hv (And.intro hk3 hb3))
    have hnm := name_c (IntKind.i8.wrap n) w3 hw.1 hw.2
    unfold strV at hnm
    have HNM := Lib.hid hnm
    clear HN hn hv hk3 hb3 hnm c1 z1
    rcases hgb : (g && (numB (-128) 127 r).isSome) with _ | _
    ·
     rw [hgb] at c3
     have HGB := Lib.hid hgb
     clear hgb
     go_wp2_with fail
     go_ret
     obtain ⟨e1, e2⟩ := op_end HNO.out HR.out HV.out.1
     refine ⟨_, rfl, hw, e1, ?_, but_set (C := fun k => k = cf) ((But.of_below HB1.out).trans HV.out.2.2 fun _ _ e => e) rfl _⟩
     rw [e2, <- Bool.and_assoc, HGB.out, Bool.false_and]
     exact blk_set1 HV.out.2.1 _
    ·
     rw [hgb] at c3
     have HGB := Lib.hid hgb
     clear hgb
     go_wp2_with fail
     (refine HNM.out.mono ?_); rintro ev w4 ⟨rfl, hb4⟩
     have hk4 := HV.out.2.1.below hb4 HV.out.2.1.lt
     have c4 := (hk4.cell 0).trans rfl
     have z4 := hk4.frozen 0
     have HK4 := Lib.hid (And.intro hk4 hb4)
     clear hk4 hb4
     go_wp2_with fail
     go_ret
     obtain ⟨e1, e2⟩ := op_end HNO.out HR.out HV.out.1
     refine ⟨_, rfl, hw, e1, ?_, but_set (C := fun k => k = cf) (But.trans (But.of_below HB1.out) (but_next HV.out.2.2 (But.of_below HK4.out.2)) fun _ _ e => e) rfl _⟩
     rw [e2, <- Bool.and_assoc, HGB.out, Bool.true_and, show (nameV (IntKind.i8.wrap n) == []) = (nameV (IntKind.i8.wrap n)).isEmpty from by cases nameV (IntKind.i8.wrap n) <;> rfl]
     exact blk_set1 HK4.out.1 _
   ·
    rw [show (s.head? == some 35) = false by simpa using hh] at hP
    have ho := op_plain HNO.out hh
    have HO := Lib.hid ho
    clear hh ho
    go_wp2_with fail
    (refine hP.mono ?_); rintro ev w2 ⟨rfl, rfl⟩
    go_wp2_with fail
    go_ret
    refine ⟨0, rfl, ⟨by decide, by decide⟩, (fun v hv => by rw [HO.out] at hv; cases hv), ?_, but_set (C := fun k => k = cf) (But.of_below HB1.out) rfl _⟩
    rw [HO.out, Option.isSome_none, Bool.and_false]
    exact blk_set1 HBK.out _
end Go.Proofs.YtobplngonkdbpaaGreatDoor.D
/- CfA -/
namespace Go.Proofs.YtobplngonkdbpaaGreatDoor.D
open Go.RowKit
open Go.Proofs.YtobplngonkdbpaaGreatDoor.B
set_option linter.unusedVariables false
set_option linter.unusedSimpArgs false
/-- Lists of at most so many. -/
structure LB (L : CoL) (B : Nat) : Prop where
 n : L.nums.length <= B
 t : L.texts.length <= B
 y : L.types.length <= B
 c : L.casts.length <= B
 f : L.fns.length <= B
 i : ∀ g ∈ L.fns, g.f.code.length <= B
/-- The reader's block, what it holds. -/
structure RAt (w : World) (r : Nat) (L : CoL) (st : Nat) : Prop where
 blk : Blk w r 106 #[L.fv, L.cv, L.nv, L.tv, L.yv, .int .i64 st]
 own : Own w (r + 1) L.rws
section
variable {w w3 w4 : World} {r st B i : Nat} {L : CoL} {A Bl l : List Rw} {x x' : Rw} {v : Value}
theorem RAt.grow {w' : World} (h : RAt w r L st) (hb : Below w.heap.size w w') : RAt w' r L st := ⟨h.blk.below hb h.blk.lt, h.own.grow hb⟩
theorem Own.low {base b : Nat} (h : Own w base l) (hb : b < base) (i : Nat) (v : Value) : Own (w.setCell ⟨b, i, none⟩ v) base l :=
 ⟨fun x hx => own_but (cf := b) (h.own x hx) (but_set (C := fun k => k = b) (But.refl _ w) rfl v) hb, h.ap⟩
theorem RAt.upd (h : RAt w3 r L st) (hl : L.rws = A ++ x :: Bl) (ht : Tch w3 w4 x.v.ownBlock x'.v.ownBlock) (ho : w4.ownsRow (r + 1) x'.e x'.sz x'.v x'.n x'.xs) :
  Own w4 (r + 1) (A ++ x' :: Bl) /\ Blk w4 r 106 #[L.fv, L.cv, L.nv, L.tv, L.yv, .int .i64 st] := by
 have ho2 := h.own
 rw [hl] at ho2
 refine ⟨ho2.touch ht ho, (ht.block h.blk.lt fun e => ?_).trans h.blk⟩
 have := (ho2.lt (r := x) (by simp) r e).1
 omega
def rowF (L : CoL) : Rw := ⟨90, 4, L.fv, L.fns.length, L.fns.flatMap FuL.cells⟩
def rowC (L : CoL) : Rw := ⟨84, 3, L.cv, L.casts.length, L.casts.flatMap WtL.cells⟩
def rowN (L : CoL) : Rw := ⟨2, 1, L.nv, L.nums.length, numC L.nums⟩
def rowT (L : CoL) : Rw := ⟨9, 1, L.tv, L.texts.length, envC L.texts⟩
def rowY (L : CoL) : Rw := ⟨9, 1, L.yv, L.types.length, envC L.types⟩
def rowR (L : CoL) : List Rw := L.fns.flatMap FuL.rws ++ L.casts.map WtL.rw
theorem rws_eq (L : CoL) : L.rws = rowF L :: rowC L :: rowN L :: rowT L :: rowY L :: rowR L := rfl
theorem RAt.far {u : Option Nat} (h : RAt w3 r L st) (hx : x ∈ L.rws) (ht : Tch w3 w4 x.v.ownBlock u) : Blk w4 r 106 #[L.fv, L.cv, L.nv, L.tv, L.yv, .int .i64 st] :=
 (ht.block h.blk.lt fun e => by have := (h.own.lt hx r e).1; omega).trans h.blk
theorem RAt.but {u : Option Nat} (h : RAt w3 r L st) (hx : x ∈ L.rws) (ht : Tch w3 w4 x.v.ownBlock u) : Below r w3 w4 :=
 (ht.but (C := fun k => x.v.ownBlock = some k) (But.refl _ w3) fun k hk _ => hk).below (Nat.le_of_lt h.blk.lt) fun k hk => by have := (h.own.lt hx k hk).1; omega
theorem RAt.away (h : RAt w r L st) (hx : x ∈ L.rws) {b : Nat} (hb : w.heap.size <= b) : x.v.ownBlock ≠ some b := fun e => by have := (h.own.lt hx b e).2; omega
theorem rowF_in (L : CoL) : rowF L ∈ L.rws := by rw [rws_eq]; simp
theorem rowC_in (L : CoL) : rowC L ∈ L.rws := by rw [rws_eq]; simp
theorem rowN_in (L : CoL) : rowN L ∈ L.rws := by rw [rws_eq]; simp
theorem rowT_in (L : CoL) : rowT L ∈ L.rws := by rw [rws_eq]; simp
theorem rowY_in (L : CoL) : rowY L ∈ L.rws := by rw [rws_eq]; simp
theorem RAt.low (h : Own w (r + 1) l) (i : Nat) (v : Value) : Own (w.setCell ⟨r, i, none⟩ v) (r + 1) l := h.low (Nat.lt_succ_self r) i v
theorem RAt.num {V : Value} {n : Int} (h : RAt w3 r L st) (ht : Tch w3 w4 L.nv.ownBlock V.ownBlock) (ho : w4.ownsRow (r + 1) 2 1 V (L.nums.length + 1) (numC L.nums ++ [.int .i64 n])) :
  RAt (w4.setCell ⟨r, 2, none⟩ V) r { L with nums := L.nums ++ [n], nv := V } st := by
 obtain ⟨h1, h2⟩ := h.upd (A := [rowF L, rowC L]) (x := rowN L) (Bl := rowT L :: rowY L :: rowR L) (x' := rowN { L with nums := L.nums ++ [n], nv := V }) rfl ht (by
  simpa [rowN, numC] using ho)
 exact ⟨h2.set_ 2 V, RAt.low h1 2 V⟩
theorem RAt.text {V : Value} {n : Bs} (h : RAt w3 r L st) (ht : Tch w3 w4 L.tv.ownBlock V.ownBlock) (ho : w4.ownsRow (r + 1) 9 1 V (L.texts.length + 1) (envC L.texts ++ [strV n])) :
  RAt (w4.setCell ⟨r, 3, none⟩ V) r { L with texts := L.texts ++ [n], tv := V } st := by
 obtain ⟨h1, h2⟩ := h.upd (A := [rowF L, rowC L, rowN L]) (x := rowT L) (Bl := rowY L :: rowR L) (x' := rowT { L with texts := L.texts ++ [n], tv := V }) rfl ht (by
  simpa [rowT, envC] using ho)
 exact ⟨h2.set_ 3 V, RAt.low h1 3 V⟩
theorem RAt.type {V : Value} {n : Bs} (h : RAt w3 r L st) (ht : Tch w3 w4 L.yv.ownBlock V.ownBlock) (ho : w4.ownsRow (r + 1) 9 1 V (L.types.length + 1) (envC L.types ++ [strV n])) :
  RAt (w4.setCell ⟨r, 4, none⟩ V) r { L with types := L.types ++ [n], yv := V } st := by
 obtain ⟨h1, h2⟩ := h.upd (A := [rowF L, rowC L, rowN L, rowT L]) (x := rowY L) (Bl := rowR L) (x' := rowY { L with types := L.types ++ [n], yv := V }) rfl ht (by
  simpa [rowY, envC] using ho)
 exact ⟨h2.set_ 4 V, RAt.low h1 4 V⟩
end
/-- The law of an append, in a drawn region. -/
theorem step_append_fine {P : Program} {w : World} {ops : Array Oper} {o : Oper} {a : Act} {K : Act -> World -> Prop} {Q : Exit -> Act -> World -> Prop} {E : Prop} (hgd : o.guard = none) (s x : Operand) (t : TypeId)
  (ho : o.op = .call { callee := .builtin .append, args := #[s, x], argTypes := #[t, t] })
  (base : Nat) (e : TypeId) (i : TypeInfo) (z : Value) (size bytes : Nat) (ht : P.underlying t = some (.slice e)) (hi : P.info? e = some i) (hz : i.zero = some z)
  (hsize : i.size = size) (hby : i.bytes = bytes) (hzs : z.cells.size = size)
  (v : Value) (n : Nat) (xs : List Value) (hs : a.eval s = v) (hown : w.ownsRow base e size v n xs)
  (B : Nat) (A : Option Addr) (m c : Nat) (news : List Value) (hx : a.eval x = .slice A m c) (hr : Sl w B size A m news) (h1 : ∀ u ∈ news, u.oneCell' = true) (hm : 0 < m)
  (h63 : n + m <= maxLen) (hbytes : (n + m) * bytes <= 140737488355328) (hbase : base <= w.heap.size)
  (h : ∀ v' w', w'.ownsRow base e size v' (n + m) (xs ++ news) -> Tch w w' v.ownBlock v'.ownBlock -> K (a.put o.dst v') w') :
  if Region.wanted o (yielded ops a.tmps) = true then Oper.wp P o a w K Q else E := by
 have hw : Region.wanted o (yielded ops a.tmps) = true := by simp [Region.wanted, hgd]
 rw [if_pos hw]
 exact wp_append_fine w s x t ho base e i z size bytes ht hi hz hsize hby hzs v n xs hs hown B A m c news hx hr h1 hm h63 hbytes hbase h
/-- Two words in memory. -/
theorem wordsK {w1 : World} {base N : Nat} {v : Value} {ws : List Bs} (h : w1.ownsRow base 9 1 v N (envC ws)) (hn : 0 < ws.length) :
  N = ws.length /\ ∃ bw cw, v = .slice (some ⟨bw, 0, none⟩) N cw /\ base <= bw /\ bw < w1.heap.size /\ N <= cw /\ ∀ j x, ws[j]? = some x -> w1.cell? ⟨bw, j, none⟩ = some (strV x) := by
 have hN : N = ws.length := by have := h.1; simp [envC] at this; omega
 refine ⟨hN, ?_⟩
 rcases h.2 with ⟨rfl, h0⟩ | ⟨g, cap, cur, rfl, hbg, hg, hcap, _⟩
 · omega
 · exact ⟨g, cap, rfl, hbg, (Array.getElem?_eq_some_iff.1 hg).1, hcap, fun j x hx => by have := h.cells (g := g) rfl j (strV x) (by simp [envC, hx]); rwa [add_flat, Nat.zero_add] at this⟩
/-! ### A line's end -/
/-- What a line's reading answers and leaves. -/
def LineQ (r st B : Nat) (L : CoL) (s : Bs) (w : World) (e : Ending) (w' : World) : Prop :=
 (∃ ok, e = .returned (.bool ok) /\ (ok = false -> stepV (st, L.code) s = none) /\ (ok = true -> ∃ L' st', stepV (st, L.code) s = some (st', L'.code) /\ RAt w' r L' st' /\ LB L' (B + 1))) /\ Below r w w'
theorem stepV_words (st : Nat × Cod) (s : Bs) : stepV st s = match rdItem (wordsP s) with | some it => stepI st it | none => none := by
 rw [rd_wordsP]; rfl
theorem line_no {r st B : Nat} {L : CoL} {s : Bs} {w w' : World} (hn : rdItem (wordsP s) = none) (hb : Below r w w') : LineQ r st B L s w (.returned (.bool false)) w' :=
 ⟨⟨false, rfl, fun _ => by rw [stepV_words, hn], fun h => by cases h⟩, hb⟩
theorem line_yes {r cf st B stg : Nat} {L L' : CoL} {s : Bs} {w wx : World} {it : Option Item} (hi : rdItem (wordsP s) = it) (h2 : RAt wx r L' st) (h3 : LB L' (B + 1)) (h4 : Below r w wx) (h5 : true = it.isSome)
  (h6 : ∀ i, it = some i -> L'.code = addI L.code i /\ stageI i = stg) (hf : ∀ i, it = some i -> isIns i = true -> L.fns ≠ []) (hs : st <= stg) :
  LineQ r st B L s w (.returned (.bool true)) (wx.setCell ⟨r, 5, none⟩ (.int .i64 stg)) := by
 obtain ⟨i, rfl⟩ := Option.isSome_iff_exists.1 h5.symm
 obtain ⟨e1, e2⟩ := h6 i rfl
 refine ⟨⟨true, rfl, (fun h => by cases h), fun _ => ⟨L', stg, ?_, ⟨h2.blk.set_ 5 _, RAt.low h2.own 5 _⟩, h3⟩⟩, below_set h4 (Nat.le_refl r) _⟩
 rw [stepV_words, hi]
 simp only
 unfold stepI
 rw [if_pos ⟨fun hx => by have := hf i rfl hx; simpa [CoL.code] using this, by rw [e2]; exact hs⟩, e1, e2]
theorem line_late {r cf st B stg : Nat} {L L' : CoL} {s : Bs} {w wx : World} {it : Option Item} (hi : rdItem (wordsP s) = it) (h4 : Below r w wx)
  (h6 : ∀ i, it = some i -> L'.code = addI L.code i /\ stageI i = stg) (hs : ¬ st <= stg) : LineQ r st B L s w (.returned (.bool false)) wx := by
 refine ⟨⟨false, rfl, fun _ => ?_, fun h => by cases h⟩, h4⟩
 rw [stepV_words, hi]
 cases it with
 | none => rfl
 | some i =>
  simp only
  unfold stepI
  rw [if_neg]
  rintro ⟨_, h⟩
  rw [(h6 i rfl).2] at h
  exact hs h
end Go.Proofs.YtobplngonkdbpaaGreatDoor.D
