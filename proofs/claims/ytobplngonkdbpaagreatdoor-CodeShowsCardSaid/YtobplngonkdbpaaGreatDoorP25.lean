/- Parts of this claim: CgD, CgE, CgF, CgG. -/
import Derived.Test.YtobplngonkdbpaaGreatDoorP24
import Derived.Test.YtobplngonkdbpaaGreatDoorP05
set_option linter.unusedVariables false
set_option linter.unusedSimpArgs false
/- CgD -/
namespace Go.Proofs.YtobplngonkdbpaaGreatDoor.D
open Go.RowKit
open Go.Proofs.YtobplngonkdbpaaGreatDoor.B
set_option linter.unusedVariables false
set_option linter.unusedSimpArgs false
set_option maxRecDepth 100000 in
theorem eqTexts_c (l : List Bs) (N : Nat) (A A' : Option Addr) (c c' : Nat) (w : World) (hN : l.length = N) (hb : N <= 9223372036854775807) (hA : Sl w w.heap.size 1 A N (envC l)) (hA' : Sl w w.heap.size 1 A' N (envC l)) :
  Calls Tryz.prog 52 #[.slice A N c, .slice A' N c'] w fun e w' => e = .returned (.bool true) /\ Below w.heap.size w w' := by
 have HA := Lib.hid (And.intro hA (And.intro hA' hN))
 clear hA hA' hN
 go_enter Tryz.func52, Tryz.ntmps52
 go_wp2_with fail
 go_loopg [5] N (fun g i wr => ∃ k : Nat, k <= N /\ g = N - k /\ i = .int .i64 k /\ ∃ m, wr = w.drewN m)
 case atStart => exact ⟨0, by omega, rfl, rfl, 0, rfl⟩
 case round =>
  obtain ⟨k, hk, rfl, rfl, m, rfl⟩ := hrel
  by_cases h1 : k < N
  ·
   obtain ⟨x, hx⟩ : ∃ x, l[k]? = some x := ⟨_, List.getElem?_eq_getElem (by rw [HA.out.2.2]; exact h1)⟩
   obtain ⟨b, o, rfl, hb1, hc1⟩ := HA.out.1.at_ (by omega)
   obtain ⟨b', o', rfl, hb1', hc1'⟩ := HA.out.2.1.at_ (by omega)
   have d0 : w.cell? ⟨b, o + k, none⟩ = some (.string ⟨x.toArray⟩) := hc1 k _ (by simp [envC, hx]; try rfl)
   have f0 : w.cell? ⟨b', o' + k, none⟩ = some (.string ⟨x.toArray⟩) := hc1' k _ (by simp [envC, hx]; try rfl)
   clear hb1 hc1 hb1' hc1' hx
   go_wp2_with fail
   go_quiet (fail)
   go_wp2_with fail
   go_roundg (N - (k + 1))
   case measure => omega
   case rel => exact ⟨k + 1, by omega, rfl, by go_num, m + nq, rfl⟩
  ·
   go_wp2_with fail
   go_ret
   exact ⟨rfl, below_drewN (Below.refl _ _) _⟩
set_option maxRecDepth 100000 in
theorem eqLongs_c (l : List Int) (N : Nat) (A A' : Option Addr) (c c' : Nat) (w : World) (hN : l.length = N) (hb : N <= 9223372036854775807) (hA : Sl w w.heap.size 1 A N (numC l)) (hA' : Sl w w.heap.size 1 A' N (numC l)) :
  Calls Tryz.prog 51 #[.slice A N c, .slice A' N c'] w fun e w' => e = .returned (.bool true) /\ Below w.heap.size w w' := by
 have HA := Lib.hid (And.intro hA (And.intro hA' hN))
 clear hA hA' hN
 go_enter Tryz.func51, Tryz.ntmps51
 go_wp2_with fail
 go_loopg [5] N (fun g i wr => ∃ k : Nat, k <= N /\ g = N - k /\ i = .int .i64 k /\ ∃ m, wr = w.drewN m)
 case atStart => exact ⟨0, by omega, rfl, rfl, 0, rfl⟩
 case round =>
  obtain ⟨k, hk, rfl, rfl, m, rfl⟩ := hrel
  by_cases h1 : k < N
  ·
   obtain ⟨x, hx⟩ : ∃ x, l[k]? = some x := ⟨_, List.getElem?_eq_getElem (by rw [HA.out.2.2]; exact h1)⟩
   obtain ⟨b, o, rfl, hb1, hc1⟩ := HA.out.1.at_ (by omega)
   obtain ⟨b', o', rfl, hb1', hc1'⟩ := HA.out.2.1.at_ (by omega)
   have d0 : w.cell? ⟨b, o + k, none⟩ = some (.int .i64 x) := hc1 k _ (by simp [numC, hx]; try rfl)
   have f0 : w.cell? ⟨b', o' + k, none⟩ = some (.int .i64 x) := hc1' k _ (by simp [numC, hx]; try rfl)
   clear hb1 hc1 hb1' hc1' hx
   go_wp2_with fail
   go_quiet (fail)
   go_wp2_with fail
   go_roundg (N - (k + 1))
   case measure => omega
   case rel => exact ⟨k + 1, by omega, rfl, by go_num, m + nq, rfl⟩
  ·
   go_wp2_with fail
   go_ret
   exact ⟨rfl, below_drewN (Below.refl _ _) _⟩
set_option maxRecDepth 100000 in
theorem eqIns_c (l : List In) (N : Nat) (A A' : Option Addr) (c c' : Nat) (w : World) (hN : l.length = N) (hb : N <= 9223372036854775807) (hA : Sl w w.heap.size 3 A N (codC l)) (hA' : Sl w w.heap.size 3 A' N (codC l)) :
  Calls Tryz.prog 138 #[.slice A N c, .slice A' N c'] w fun e w' => e = .returned (.bool true) /\ Below w.heap.size w w' := by
 have HA := Lib.hid (And.intro hA (And.intro hA' hN))
 clear hA hA' hN
 go_enter Tryz.func138, Tryz.ntmps138
 go_wp2_with fail
 go_loopg [5] N (fun g i wr => ∃ k : Nat, k <= N /\ g = N - k /\ i = .int .i64 k /\ ∃ m, wr = w.drewN m)
 case atStart => exact ⟨0, by omega, rfl, rfl, 0, rfl⟩
 case round =>
  obtain ⟨k, hk, rfl, rfl, m, rfl⟩ := hrel
  by_cases h1 : k < N
  ·
   obtain ⟨x, hx⟩ : ∃ x, l[k]? = some x := ⟨_, List.getElem?_eq_getElem (by rw [HA.out.2.2]; exact h1)⟩
   obtain ⟨b, o, rfl, hb1, hc1⟩ := HA.out.1.at_ (by omega)
   obtain ⟨b', o', rfl, hb1', hc1'⟩ := HA.out.2.1.at_ (by omega)
   have d0 : w.cell? ⟨b, o + k * 3, none⟩ = some (.int .i8 x.op) := by have := hc1 (k * 3 + 0) _ (by rw [codC, flat_at inC 3 (fun _ => rfl) _ _ _ _ hx (by decide)]; rfl); rwa [<- Nat.add_assoc] at this
   have f0 : w.cell? ⟨b', o' + k * 3, none⟩ = some (.int .i8 x.op) := by have := hc1' (k * 3 + 0) _ (by rw [codC, flat_at inC 3 (fun _ => rfl) _ _ _ _ hx (by decide)]; rfl); rwa [<- Nat.add_assoc] at this
   have d1 : w.cell? ⟨b, o + k * 3 + 1, none⟩ = some (.int .i64 x.a) := by have := hc1 (k * 3 + 1) _ (by rw [codC, flat_at inC 3 (fun _ => rfl) _ _ _ _ hx (by decide)]; rfl); rwa [<- Nat.add_assoc] at this
   have f1 : w.cell? ⟨b', o' + k * 3 + 1, none⟩ = some (.int .i64 x.a) := by have := hc1' (k * 3 + 1) _ (by rw [codC, flat_at inC 3 (fun _ => rfl) _ _ _ _ hx (by decide)]; rfl); rwa [<- Nat.add_assoc] at this
   have d2 : w.cell? ⟨b, o + k * 3 + 2, none⟩ = some (.int .i64 x.b) := by have := hc1 (k * 3 + 2) _ (by rw [codC, flat_at inC 3 (fun _ => rfl) _ _ _ _ hx (by decide)]; rfl); rwa [<- Nat.add_assoc] at this
   have f2 : w.cell? ⟨b', o' + k * 3 + 2, none⟩ = some (.int .i64 x.b) := by have := hc1' (k * 3 + 2) _ (by rw [codC, flat_at inC 3 (fun _ => rfl) _ _ _ _ hx (by decide)]; rfl); rwa [<- Nat.add_assoc] at this
   clear hb1 hc1 hb1' hc1' hx
   go_wp2_with fail
   go_quiet (fail)
   go_wp2_with fail
   go_roundg (N - (k + 1))
   case measure => omega
   case rel => exact ⟨k + 1, by omega, rfl, by go_num, m + nq, rfl⟩
  ·
   go_wp2_with fail
   go_ret
   exact ⟨rfl, below_drewN (Below.refl _ _) _⟩
set_option maxRecDepth 100000 in
theorem eqCos_c (l : List Nd) (N : Nat) (A A' : Option Addr) (c c' : Nat) (w : World) (hN : l.length = N) (hb : N <= 9223372036854775807) (hA : Sl w w.heap.size 7 A N (cosC l)) (hA' : Sl w w.heap.size 7 A' N (cosC l)) :
  Calls Tryz.prog 139 #[.slice A N c, .slice A' N c'] w fun e w' => e = .returned (.bool true) /\ Below w.heap.size w w' := by
 have HA := Lib.hid (And.intro hA (And.intro hA' hN))
 clear hA hA' hN
 go_enter Tryz.func139, Tryz.ntmps139
 go_wp2_with fail
 go_loopg [5] N (fun g i wr => ∃ k : Nat, k <= N /\ g = N - k /\ i = .int .i64 k /\ ∃ m, wr = w.drewN m)
 case atStart => exact ⟨0, by omega, rfl, rfl, 0, rfl⟩
 case round =>
  obtain ⟨k, hk, rfl, rfl, m, rfl⟩ := hrel
  by_cases h1 : k < N
  ·
   obtain ⟨x, hx⟩ : ∃ x, l[k]? = some x := ⟨_, List.getElem?_eq_getElem (by rw [HA.out.2.2]; exact h1)⟩
   obtain ⟨b, o, rfl, hb1, hc1⟩ := HA.out.1.at_ (by omega)
   obtain ⟨b', o', rfl, hb1', hc1'⟩ := HA.out.2.1.at_ (by omega)
   have d0 : w.cell? ⟨b, o + k * 7, none⟩ = some (.int .i8 x.op) := by have := hc1 (k * 7 + 0) _ (by rw [cosC, flat_at ndC 7 (fun _ => rfl) _ _ _ _ hx (by decide)]; rfl); rwa [<- Nat.add_assoc] at this
   have f0 : w.cell? ⟨b', o' + k * 7, none⟩ = some (.int .i8 x.op) := by have := hc1' (k * 7 + 0) _ (by rw [cosC, flat_at ndC 7 (fun _ => rfl) _ _ _ _ hx (by decide)]; rfl); rwa [<- Nat.add_assoc] at this
   have d1 : w.cell? ⟨b, o + k * 7 + 1, none⟩ = some (.int .i64 x.proj) := by have := hc1 (k * 7 + 1) _ (by rw [cosC, flat_at ndC 7 (fun _ => rfl) _ _ _ _ hx (by decide)]; rfl); rwa [<- Nat.add_assoc] at this
   have f1 : w.cell? ⟨b', o' + k * 7 + 1, none⟩ = some (.int .i64 x.proj) := by have := hc1' (k * 7 + 1) _ (by rw [cosC, flat_at ndC 7 (fun _ => rfl) _ _ _ _ hx (by decide)]; rfl); rwa [<- Nat.add_assoc] at this
   have d2 : w.cell? ⟨b, o + k * 7 + 2, none⟩ = some (.bool x.inj) := by have := hc1 (k * 7 + 2) _ (by rw [cosC, flat_at ndC 7 (fun _ => rfl) _ _ _ _ hx (by decide)]; rfl); rwa [<- Nat.add_assoc] at this
   have f2 : w.cell? ⟨b', o' + k * 7 + 2, none⟩ = some (.bool x.inj) := by have := hc1' (k * 7 + 2) _ (by rw [cosC, flat_at ndC 7 (fun _ => rfl) _ _ _ _ hx (by decide)]; rfl); rwa [<- Nat.add_assoc] at this
   have d3 : w.cell? ⟨b, o + k * 7 + 3, none⟩ = some (.int .u8 x.head) := by have := hc1 (k * 7 + 3) _ (by rw [cosC, flat_at ndC 7 (fun _ => rfl) _ _ _ _ hx (by decide)]; rfl); rwa [<- Nat.add_assoc] at this
   have f3 : w.cell? ⟨b', o' + k * 7 + 3, none⟩ = some (.int .u8 x.head) := by have := hc1' (k * 7 + 3) _ (by rw [cosC, flat_at ndC 7 (fun _ => rfl) _ _ _ _ hx (by decide)]; rfl); rwa [<- Nat.add_assoc] at this
   have d4 : w.cell? ⟨b, o + k * 7 + 4, none⟩ = some (.int .i64 x.lab) := by have := hc1 (k * 7 + 4) _ (by rw [cosC, flat_at ndC 7 (fun _ => rfl) _ _ _ _ hx (by decide)]; rfl); rwa [<- Nat.add_assoc] at this
   have f4 : w.cell? ⟨b', o' + k * 7 + 4, none⟩ = some (.int .i64 x.lab) := by have := hc1' (k * 7 + 4) _ (by rw [cosC, flat_at ndC 7 (fun _ => rfl) _ _ _ _ hx (by decide)]; rfl); rwa [<- Nat.add_assoc] at this
   have d5 : w.cell? ⟨b, o + k * 7 + 5, none⟩ = some (.int .u8 x.from_) := by have := hc1 (k * 7 + 5) _ (by rw [cosC, flat_at ndC 7 (fun _ => rfl) _ _ _ _ hx (by decide)]; rfl); rwa [<- Nat.add_assoc] at this
   have f5 : w.cell? ⟨b', o' + k * 7 + 5, none⟩ = some (.int .u8 x.from_) := by have := hc1' (k * 7 + 5) _ (by rw [cosC, flat_at ndC 7 (fun _ => rfl) _ _ _ _ hx (by decide)]; rfl); rwa [<- Nat.add_assoc] at this
   have d6 : w.cell? ⟨b, o + k * 7 + 6, none⟩ = some (.int .u8 x.to_) := by have := hc1 (k * 7 + 6) _ (by rw [cosC, flat_at ndC 7 (fun _ => rfl) _ _ _ _ hx (by decide)]; rfl); rwa [<- Nat.add_assoc] at this
   have f6 : w.cell? ⟨b', o' + k * 7 + 6, none⟩ = some (.int .u8 x.to_) := by have := hc1' (k * 7 + 6) _ (by rw [cosC, flat_at ndC 7 (fun _ => rfl) _ _ _ _ hx (by decide)]; rfl); rwa [<- Nat.add_assoc] at this
   clear hb1 hc1 hb1' hc1' hx
   go_wp2_with fail
   go_quiet (fail)
   go_wp2_with fail
   go_roundg (N - (k + 1))
   case measure => omega
   case rel => exact ⟨k + 1, by omega, rfl, by go_num, m + nq, rfl⟩
  ·
   go_wp2_with fail
   go_ret
   exact ⟨rfl, below_drewN (Below.refl _ _) _⟩
set_option maxRecDepth 100000 in
theorem eqFn_c (f : Fu) (M Q : Nat) (A1 A2 B1 B2 : Option Addr) (c1 c2 d1 d2 : Nat) (w : World) (hM : f.env.length = M) (hQ : f.code.length = Q) (hMb : M <= 9223372036854775807) (hQb : Q <= 9223372036854775807)
  (h1 : Sl w w.heap.size 1 A1 M (envC f.env)) (h2 : Sl w w.heap.size 3 A2 Q (codC f.code)) (h3 : Sl w w.heap.size 1 B1 M (envC f.env)) (h4 : Sl w w.heap.size 3 B2 Q (codC f.code)) :
  Calls Tryz.prog 106 #[.agg #[.slice A1 M c1, .string ⟨f.param.toArray⟩, .string ⟨f.res.toArray⟩, .slice A2 Q c2], .agg #[.slice B1 M d1, .string ⟨f.param.toArray⟩, .string ⟨f.res.toArray⟩, .slice B2 Q d2]] w
   fun e w' => e = .returned (.bool true) /\ Below w.heap.size w w' := by
 have HT := Lib.hid (fun W (h : Below w.heap.size w W) => eqTexts_c f.env M A1 B1 c1 d1 W hM hMb ((h1.below h).more h.size) ((h3.below h).more h.size))
 have HI := Lib.hid (fun W (h : Below w.heap.size w W) => eqIns_c f.code Q A2 B2 c2 d2 W hQ hQb ((h2.below h).more h.size) ((h4.below h).more h.size))
 obtain ⟨g0, hg0⟩ : ∃ x, w.heap.size = x := ⟨_, rfl⟩
 obtain ⟨W1, hW1⟩ : ∃ W1, ((w.alloc (.cells #[.slice A1 M c1, .string ⟨f.param.toArray⟩, .string ⟨f.res.toArray⟩, .slice A2 Q c2] 90)).alloc (.cells #[.slice B1 M d1, .string ⟨f.param.toArray⟩, .string ⟨f.res.toArray⟩, .slice B2 Q d2] 90)) = W1 := ⟨_, rfl⟩
 have hb1 : Below w.heap.size w W1 := by rw [<- hW1]; exact bal (bal b0 _) _
 have k1 : Blk W1 g0 90 #[.slice A1 M c1, .string ⟨f.param.toArray⟩, .string ⟨f.res.toArray⟩, .slice A2 Q c2] := by rw [<- hW1, <- hg0]; exact (Blk.new w _ _).alloc _
 have k2 : Blk W1 (g0 + 1) 90 #[.slice B1 M d1, .string ⟨f.param.toArray⟩, .string ⟨f.res.toArray⟩, .slice B2 Q d2] := by
  rw [<- hW1, <- hg0]
  have := Blk.new (w.alloc (.cells #[.slice A1 M c1, .string ⟨f.param.toArray⟩, .string ⟨f.res.toArray⟩, .slice A2 Q c2] 90)) 90 #[.slice B1 M d1, .string ⟨f.param.toArray⟩, .string ⟨f.res.toArray⟩, .slice B2 Q d2]
  simpa only [World.size_alloc] using this
 have x0 : W1.cell? ⟨g0, 0, none⟩ = some (.slice A1 M c1) := (k1.cell 0).trans rfl
 have x1 : W1.cell? ⟨g0, 1, none⟩ = some (.string ⟨f.param.toArray⟩) := (k1.cell 1).trans rfl
 have x2 : W1.cell? ⟨g0, 2, none⟩ = some (.string ⟨f.res.toArray⟩) := (k1.cell 2).trans rfl
 have z0 : W1.cell? ⟨g0 + 1, 0, none⟩ = some (.slice B1 M d1) := (k2.cell 0).trans rfl
 have z1 : W1.cell? ⟨g0 + 1, 1, none⟩ = some (.string ⟨f.param.toArray⟩) := (k2.cell 1).trans rfl
 have z2 : W1.cell? ⟨g0 + 1, 2, none⟩ = some (.string ⟨f.res.toArray⟩) := (k2.cell 2).trans rfl
 have HK := Lib.hid (And.intro hb1 (And.intro k1 k2))
 clear h1 h2 h3 h4 hM hQ hb1 k1 k2
 go_enter Tryz.func106, Tryz.ntmps106
 go_upto_region 1 with fail
 clear hW1 hg0
 go_wp2_with fail
 (refine (HT.out _ HK.out.1).mono ?_); rintro ev w2 ⟨rfl, hb2⟩
 have x3 : w2.cell? ⟨g0, 3, none⟩ = some (.slice A2 Q c2) := ((HK.out.2.1.below hb2 HK.out.2.1.lt).cell 3).trans rfl
 have z3 : w2.cell? ⟨g0 + 1, 3, none⟩ = some (.slice B2 Q d2) := ((HK.out.2.2.below hb2 HK.out.2.2.lt).cell 3).trans rfl
 have HB2 := Lib.hid (bl HK.out.1 hb2)
 clear hb2
 go_wp2_with fail
 (refine (HI.out _ HB2.out).mono ?_); rintro ev w3 ⟨rfl, hb3⟩
 have HB3 := Lib.hid (bl HB2.out hb3)
 clear hb3
 go_wp2_with fail
 go_ret
 exact ⟨rfl, HB3.out⟩
set_option maxRecDepth 100000 in
theorem eqWait_c (f : Wt) (Q : Nat) (A2 B2 : Option Addr) (c2 d2 : Nat) (w : World) (hQ : f.co.length = Q) (hQb : Q <= 9223372036854775807)
  (h2 : Sl w w.heap.size 7 A2 Q (cosC f.co)) (h4 : Sl w w.heap.size 7 B2 Q (cosC f.co)) :
  Calls Tryz.prog 107 #[.agg #[.string ⟨f.f.toArray⟩, .string ⟨f.t.toArray⟩, .slice A2 Q c2], .agg #[.string ⟨f.f.toArray⟩, .string ⟨f.t.toArray⟩, .slice B2 Q d2]] w
   fun e w' => e = .returned (.bool true) /\ Below w.heap.size w w' := by
 have HI := Lib.hid (fun W (h : Below w.heap.size w W) => eqCos_c f.co Q A2 B2 c2 d2 W hQ hQb ((h2.below h).more h.size) ((h4.below h).more h.size))
 obtain ⟨g0, hg0⟩ : ∃ x, w.heap.size = x := ⟨_, rfl⟩
 obtain ⟨W1, hW1⟩ : ∃ W1, ((w.alloc (.cells #[.string ⟨f.f.toArray⟩, .string ⟨f.t.toArray⟩, .slice A2 Q c2] 84)).alloc (.cells #[.string ⟨f.f.toArray⟩, .string ⟨f.t.toArray⟩, .slice B2 Q d2] 84)) = W1 := ⟨_, rfl⟩
 have hb1 : Below w.heap.size w W1 := by rw [<- hW1]; exact bal (bal b0 _) _
 have k1 : Blk W1 g0 84 #[.string ⟨f.f.toArray⟩, .string ⟨f.t.toArray⟩, .slice A2 Q c2] := by rw [<- hW1, <- hg0]; exact (Blk.new w _ _).alloc _
 have k2 : Blk W1 (g0 + 1) 84 #[.string ⟨f.f.toArray⟩, .string ⟨f.t.toArray⟩, .slice B2 Q d2] := by
  rw [<- hW1, <- hg0]
  have := Blk.new (w.alloc (.cells #[.string ⟨f.f.toArray⟩, .string ⟨f.t.toArray⟩, .slice A2 Q c2] 84)) 84 #[.string ⟨f.f.toArray⟩, .string ⟨f.t.toArray⟩, .slice B2 Q d2]
  simpa only [World.size_alloc] using this
 have x0 : W1.cell? ⟨g0, 0, none⟩ = some (.string ⟨f.f.toArray⟩) := (k1.cell 0).trans rfl
 have x1 : W1.cell? ⟨g0, 1, none⟩ = some (.string ⟨f.t.toArray⟩) := (k1.cell 1).trans rfl
 have x2 : W1.cell? ⟨g0, 2, none⟩ = some (.slice A2 Q c2) := (k1.cell 2).trans rfl
 have z0 : W1.cell? ⟨g0 + 1, 0, none⟩ = some (.string ⟨f.f.toArray⟩) := (k2.cell 0).trans rfl
 have z1 : W1.cell? ⟨g0 + 1, 1, none⟩ = some (.string ⟨f.t.toArray⟩) := (k2.cell 1).trans rfl
 have z2 : W1.cell? ⟨g0 + 1, 2, none⟩ = some (.slice B2 Q d2) := (k2.cell 2).trans rfl
 have HK := Lib.hid hb1
 clear h2 h4 hQ hb1 k1 k2
 go_enter Tryz.func107, Tryz.ntmps107
 go_upto_region 1 with fail
 clear hW1 hg0
 go_wp2_with fail
 (refine (HI.out _ HK.out).mono ?_); rintro ev w2 ⟨rfl, hb2⟩
 have HB2 := Lib.hid (bl HK.out hb2)
 clear hb2
 go_wp2_with fail
 go_ret
 exact ⟨rfl, HB2.out⟩
set_option maxRecDepth 100000 in
set_option maxHeartbeats 1000000 in
theorem eqFns_c (l l' : List FuL) (N : Nat) (A A' : Option Addr) (c c' : Nat) (w : World) (hN : l.length = N) (he : l.map (·.f) = l'.map (·.f)) (hb : N <= 9223372036854775807) (hA : Sl w w.heap.size 4 A N (l.flatMap FuL.cells)) (hA' : Sl w w.heap.size 4 A' N (l'.flatMap FuL.cells))
  (h1 : ∀ g ∈ l, Rs w 1 g.ev g.f.env.length (envC g.f.env)) (h2 : ∀ g ∈ l, Rs w 3 g.cv g.f.code.length (codC g.f.code)) (h3 : ∀ g ∈ l', Rs w 1 g.ev g.f.env.length (envC g.f.env)) (h4 : ∀ g ∈ l', Rs w 3 g.cv g.f.code.length (codC g.f.code)) :
  Calls Tryz.prog 49 #[.slice A N c, .slice A' N c'] w fun e w' => e = .returned (.bool true) /\ Below w.heap.size w w' := by
 have hN' : l'.length = N := by have := congrArg List.length he; simp only [List.length_map] at this; omega
 have HA := Lib.hid (And.intro hA (And.intro hA' (And.intro hN (And.intro hN' he))))
 have HN4 := Lib.hid (And.intro h1 (And.intro h2 (And.intro h3 h4)))
 clear h1 h2 h3 h4
 clear hA hA' hN hN' he
 go_enter Tryz.func49, Tryz.ntmps49
 go_wp2_with fail
 go_loopg [5] N (fun g i wr => ∃ k : Nat, k <= N /\ g = N - k /\ i = .int .i64 k /\ Below w.heap.size w wr)
 case atStart => exact ⟨0, by omega, rfl, rfl, b0⟩
 case round =>
  obtain ⟨k, hk, rfl, rfl, hbr⟩ := hrel
  have HBr := Lib.hid hbr
  clear hbr
  by_cases h1 : k < N
  ·
   obtain ⟨x, hx⟩ : ∃ x, l[k]? = some x := ⟨_, List.getElem?_eq_getElem (by rw [HA.out.2.2.1]; exact h1)⟩
   obtain ⟨y, hy⟩ : ∃ y, l'[k]? = some y := ⟨_, List.getElem?_eq_getElem (by rw [HA.out.2.2.2.1]; exact h1)⟩
   have hxy : x.f = y.f := by
    have := congrArg (·[k]?) HA.out.2.2.2.2
    simp only [List.getElem?_map, hx, hy, Option.map_some] at this
    injection this
   obtain ⟨b, o, rfl, hb1, hc1⟩ := HA.out.1.at_ (by omega)
   obtain ⟨b', o', rfl, hb1', hc1'⟩ := HA.out.2.1.at_ (by omega)
   have kc : ∀ j v, (FuL.cells x)[j]? = some v -> j < 4 -> wr.cell? ⟨b, o + k * 4 + j, none⟩ = some v := fun j v hv hj => by
    rw [Nat.add_assoc]
    exact (HBr.out.cell (p := ⟨b, o + (k * 4 + j), none⟩) hb1).trans (hc1 _ _ (by rw [flat_at FuL.cells 4 (fun _ => rfl) _ _ _ _ hx hj]; exact hv))
   have kc' : ∀ j v, (FuL.cells y)[j]? = some v -> j < 4 -> wr.cell? ⟨b', o' + k * 4 + j, none⟩ = some v := fun j v hv hj => by
    rw [Nat.add_assoc]
    exact (HBr.out.cell (p := ⟨b', o' + (k * 4 + j), none⟩) hb1').trans (hc1' _ _ (by rw [flat_at FuL.cells 4 (fun _ => rfl) _ _ _ _ hy hj]; exact hv))
   obtain ⟨A1, c1, ev1, hc1a, hd1, s1⟩ := (HN4.out.1 x (List.mem_of_getElem? hx)).sl
   obtain ⟨A2, c2, ev2, hc2a, hd2, s2⟩ := (HN4.out.2.1 x (List.mem_of_getElem? hx)).sl
   obtain ⟨B1, d1, fv1, hc3a, hd3, s3⟩ := (HN4.out.2.2.1 y (List.mem_of_getElem? hy)).sl
   obtain ⟨B2, d2, fv2, hc4a, hd4, s4⟩ := (HN4.out.2.2.2 y (List.mem_of_getElem? hy)).sl
   obtain ⟨M, hM⟩ : ∃ M, y.f.env.length = M := ⟨_, rfl⟩
   obtain ⟨Q, hQ⟩ : ∃ Q, y.f.code.length = Q := ⟨_, rfl⟩
   rw [hxy] at ev1 s1 ev2 s2 hc1a hc2a
   rw [hM] at ev1 s1 fv1 s3 hc1a
   rw [hQ] at ev2 s2 fv2 s4 hc2a
   simp only [maxLen] at hd1 hd2
   have HCALL := Lib.hid (fun W (h : Below w.heap.size w W) => eqFn_c y.f M Q A1 A2 B1 B2 c1 c2 d1 d2 W hM hQ (by omega) (by omega) ((s1.below h).more h.size) ((s2.below h).more h.size) ((s3.below h).more h.size) ((s4.below h).more h.size))
   have t0 : wr.cell? ⟨b, o + k * 4, none⟩ = some (.slice A1 M c1) := kc 0 _ (by show some x.ev = _; rw [ev1]) (by decide)
   have t1 : wr.cell? ⟨b, o + k * 4 + 1, none⟩ = some (.string ⟨y.f.param.toArray⟩) := kc 1 _ (by show some (strV x.f.param) = _; rw [hxy]; rfl) (by decide)
   have t2 : wr.cell? ⟨b, o + k * 4 + 2, none⟩ = some (.string ⟨y.f.res.toArray⟩) := kc 2 _ (by show some (strV x.f.res) = _; rw [hxy]; rfl) (by decide)
   have t3 : wr.cell? ⟨b, o + k * 4 + 3, none⟩ = some (.slice A2 Q c2) := kc 3 _ (by show some x.cv = _; rw [ev2]) (by decide)
   have u0 : wr.cell? ⟨b', o' + k * 4, none⟩ = some (.slice B1 M d1) := kc' 0 _ (by show some y.ev = _; rw [fv1]) (by decide)
   have u1 : wr.cell? ⟨b', o' + k * 4 + 1, none⟩ = some (.string ⟨y.f.param.toArray⟩) := kc' 1 _ rfl (by decide)
   have u2 : wr.cell? ⟨b', o' + k * 4 + 2, none⟩ = some (.string ⟨y.f.res.toArray⟩) := kc' 2 _ rfl (by decide)
   have u3 : wr.cell? ⟨b', o' + k * 4 + 3, none⟩ = some (.slice B2 Q d2) := kc' 3 _ (by show some y.cv = _; rw [fv2]) (by decide)
   have hlb : b < w.heap.size := hb1
   have hlb' : b' < w.heap.size := hb1'
   have HSS := Lib.hid (show ∀ W', Below w.heap.size w W' -> W'.cell? ⟨b, o + k * 4, none⟩ = some (.slice A1 M c1) /\ W'.cell? ⟨b, o + k * 4 + 1, none⟩ = some (.string ⟨y.f.param.toArray⟩) /\ W'.cell? ⟨b, o + k * 4 + 2, none⟩ = some (.string ⟨y.f.res.toArray⟩) /\ W'.cell? ⟨b, o + k * 4 + 3, none⟩ = some (.slice A2 Q c2) /\ W'.cell? ⟨b', o' + k * 4, none⟩ = some (.slice B1 M d1) /\ W'.cell? ⟨b', o' + k * 4 + 1, none⟩ = some (.string ⟨y.f.param.toArray⟩) /\ W'.cell? ⟨b', o' + k * 4 + 2, none⟩ = some (.string ⟨y.f.res.toArray⟩) /\ W'.cell? ⟨b', o' + k * 4 + 3, none⟩ = some (.slice B2 Q d2) from fun W' h => by
    have q : ∀ j, W'.cell? ⟨b, j, none⟩ = wr.cell? ⟨b, j, none⟩ := fun j => (h.cell (p := ⟨b, j, none⟩) hlb).trans (HBr.out.cell (p := ⟨b, j, none⟩) hlb).symm
    have q' : ∀ j, W'.cell? ⟨b', j, none⟩ = wr.cell? ⟨b', j, none⟩ := fun j => (h.cell (p := ⟨b', j, none⟩) hlb').trans (HBr.out.cell (p := ⟨b', j, none⟩) hlb').symm
    exact ⟨(q _).trans t0, (q _).trans t1, (q _).trans t2, (q _).trans t3, (q' _).trans u0, (q' _).trans u1, (q' _).trans u2, (q' _).trans u3⟩)
   clear hlb hlb' s1 s2 s3 s4 ev1 ev2 fv1 fv2 hM hQ hd1 hd2 hd3 hd4 hc1a hc2a hc3a hc4a hxy
   clear hb1 hc1 hb1' hc1' hx hy kc kc'
   go_upto_region 6 with fail
   refine wp_region_held_drew (S := (fun W' => W'.cell? ⟨b, o + k * 4, none⟩ = some (.slice A1 M c1) /\ W'.cell? ⟨b, o + k * 4 + 1, none⟩ = some (.string ⟨y.f.param.toArray⟩) /\ W'.cell? ⟨b, o + k * 4 + 2, none⟩ = some (.string ⟨y.f.res.toArray⟩) /\ W'.cell? ⟨b, o + k * 4 + 3, none⟩ = some (.slice A2 Q c2) /\ W'.cell? ⟨b', o' + k * 4, none⟩ = some (.slice B1 M d1) /\ W'.cell? ⟨b', o' + k * 4 + 1, none⟩ = some (.string ⟨y.f.param.toArray⟩) /\ W'.cell? ⟨b', o' + k * 4 + 2, none⟩ = some (.string ⟨y.f.res.toArray⟩) /\ W'.cell? ⟨b', o' + k * 4 + 3, none⟩ = some (.slice B2 Q d2))) (by kernel_rfl) ?ss1 (fun hHeld => ?rr1)
   case ss1 => (try dsimp only); exact ⟨t0, t1, t2, t3, u0, u1, u2, u3⟩
   refine rgt 0 17 rfl rfl hHeld ?_
   try simp only [Act.put, rg1, rg2, rg3]
   refine rgt 1 18 rfl rfl hHeld ?_
   try simp only [Act.put, rg1, rg2, rg3]
   refine rgt 2 19 rfl rfl hHeld ?_
   try simp only [Act.put, rg1, rg2, rg3]
   refine rgt 3 20 rfl rfl hHeld ?_
   try simp only [Act.put, rg1, rg2, rg3]
   refine rgt 4 21 rfl rfl hHeld ?_
   try simp only [Act.put, rg1, rg2, rg3]
   refine rgt 5 22 rfl rfl hHeld ?_
   try simp only [Act.put, rg1, rg2, rg3]
   refine rgt 6 23 rfl rfl hHeld ?_
   try simp only [Act.put, rg1, rg2, rg3]
   refine rgt 7 24 rfl rfl hHeld ?_
   try simp only [Act.put, rg1, rg2, rg3]
   refine rgc 8 (some 25) rfl (fun K hK => ?_)
   go_simp
   ((refine (HCALL.out _ (bdr HBr.out 1)).mono ?_); rintro e w2 ⟨rfl, hb2⟩)
   refine hK.out _ _ ?ss10 (fun hHeld2 => ?rr10)
   case ss10 => (try dsimp only); exact HSS.out _ (bl (bdr HBr.out 1) hb2)
   clear hK K
   clear hHeld
   have hHeld := hHeld2
   clear hHeld2
   try simp only [Act.put, rg1, rg2, rg3]
   refine rgt 9 26 rfl rfl hHeld ?_
   try simp only [Act.put, rg1, rg2, rg3]
   refine wpAnyH_done (by kernel_rfl) ?_ _
   have HB2 := Lib.hid (bl (bdr HBr.out 1) hb2)
   clear hb2 hHeld
   go_wp2_with fail
   go_roundg (N - (k + 1))
   case measure => omega
   case rel => exact ⟨k + 1, by omega, rfl, by go_num, HB2.out⟩
  ·
   go_wp2_with fail
   go_ret
   exact ⟨rfl, HBr.out⟩
set_option maxRecDepth 100000 in
set_option maxHeartbeats 1000000 in
theorem eqWaits_c (l l' : List WtL) (N : Nat) (A A' : Option Addr) (c c' : Nat) (w : World) (hN : l.length = N) (he : l.map (·.w) = l'.map (·.w)) (hb : N <= 9223372036854775807) (hA : Sl w w.heap.size 3 A N (l.flatMap WtL.cells)) (hA' : Sl w w.heap.size 3 A' N (l'.flatMap WtL.cells))
  (h2 : ∀ g ∈ l, Rs w 7 g.cv g.w.co.length (cosC g.w.co)) (h4 : ∀ g ∈ l', Rs w 7 g.cv g.w.co.length (cosC g.w.co)) :
  Calls Tryz.prog 50 #[.slice A N c, .slice A' N c'] w fun e w' => e = .returned (.bool true) /\ Below w.heap.size w w' := by
 have hN' : l'.length = N := by have := congrArg List.length he; simp only [List.length_map] at this; omega
 have HA := Lib.hid (And.intro hA (And.intro hA' (And.intro hN (And.intro hN' he))))
 have HN4 := Lib.hid (And.intro h2 h4)
 clear h2 h4
 clear hA hA' hN hN' he
 go_enter Tryz.func50, Tryz.ntmps50
 go_wp2_with fail
 go_loopg [5] N (fun g i wr => ∃ k : Nat, k <= N /\ g = N - k /\ i = .int .i64 k /\ Below w.heap.size w wr)
 case atStart => exact ⟨0, by omega, rfl, rfl, b0⟩
 case round =>
  obtain ⟨k, hk, rfl, rfl, hbr⟩ := hrel
  have HBr := Lib.hid hbr
  clear hbr
  by_cases h1 : k < N
  ·
   obtain ⟨x, hx⟩ : ∃ x, l[k]? = some x := ⟨_, List.getElem?_eq_getElem (by rw [HA.out.2.2.1]; exact h1)⟩
   obtain ⟨y, hy⟩ : ∃ y, l'[k]? = some y := ⟨_, List.getElem?_eq_getElem (by rw [HA.out.2.2.2.1]; exact h1)⟩
   have hxy : x.w = y.w := by
    have := congrArg (·[k]?) HA.out.2.2.2.2
    simp only [List.getElem?_map, hx, hy, Option.map_some] at this
    injection this
   obtain ⟨b, o, rfl, hb1, hc1⟩ := HA.out.1.at_ (by omega)
   obtain ⟨b', o', rfl, hb1', hc1'⟩ := HA.out.2.1.at_ (by omega)
   have kc : ∀ j v, (WtL.cells x)[j]? = some v -> j < 3 -> wr.cell? ⟨b, o + k * 3 + j, none⟩ = some v := fun j v hv hj => by
    rw [Nat.add_assoc]
    exact (HBr.out.cell (p := ⟨b, o + (k * 3 + j), none⟩) hb1).trans (hc1 _ _ (by rw [flat_at WtL.cells 3 (fun _ => rfl) _ _ _ _ hx hj]; exact hv))
   have kc' : ∀ j v, (WtL.cells y)[j]? = some v -> j < 3 -> wr.cell? ⟨b', o' + k * 3 + j, none⟩ = some v := fun j v hv hj => by
    rw [Nat.add_assoc]
    exact (HBr.out.cell (p := ⟨b', o' + (k * 3 + j), none⟩) hb1').trans (hc1' _ _ (by rw [flat_at WtL.cells 3 (fun _ => rfl) _ _ _ _ hy hj]; exact hv))
   obtain ⟨A2, c2, ev2, hc2a, hd2, s2⟩ := (HN4.out.1 x (List.mem_of_getElem? hx)).sl
   obtain ⟨B2, d2, fv2, hc4a, hd4, s4⟩ := (HN4.out.2 y (List.mem_of_getElem? hy)).sl
   obtain ⟨Q, hQ⟩ : ∃ Q, y.w.co.length = Q := ⟨_, rfl⟩
   rw [hxy] at ev2 s2 hc2a
   rw [hQ] at ev2 s2 fv2 s4 hc2a
   simp only [maxLen] at hd2
   have HCALL := Lib.hid (fun W (h : Below w.heap.size w W) => eqWait_c y.w Q A2 B2 c2 d2 W hQ (by omega) ((s2.below h).more h.size) ((s4.below h).more h.size))
   have t0 : wr.cell? ⟨b, o + k * 3, none⟩ = some (.string ⟨y.w.f.toArray⟩) := kc 0 _ (by show some (strV x.w.f) = _; rw [hxy]; rfl) (by decide)
   have t1 : wr.cell? ⟨b, o + k * 3 + 1, none⟩ = some (.string ⟨y.w.t.toArray⟩) := kc 1 _ (by show some (strV x.w.t) = _; rw [hxy]; rfl) (by decide)
   have t2 : wr.cell? ⟨b, o + k * 3 + 2, none⟩ = some (.slice A2 Q c2) := kc 2 _ (by show some x.cv = _; rw [ev2]) (by decide)
   have u0 : wr.cell? ⟨b', o' + k * 3, none⟩ = some (.string ⟨y.w.f.toArray⟩) := kc' 0 _ rfl (by decide)
   have u1 : wr.cell? ⟨b', o' + k * 3 + 1, none⟩ = some (.string ⟨y.w.t.toArray⟩) := kc' 1 _ rfl (by decide)
   have u2 : wr.cell? ⟨b', o' + k * 3 + 2, none⟩ = some (.slice B2 Q d2) := kc' 2 _ (by show some y.cv = _; rw [fv2]) (by decide)
   have hlb : b < w.heap.size := hb1
   have hlb' : b' < w.heap.size := hb1'
   have HSS := Lib.hid (show ∀ W', Below w.heap.size w W' -> W'.cell? ⟨b, o + k * 3, none⟩ = some (.string ⟨y.w.f.toArray⟩) /\ W'.cell? ⟨b, o + k * 3 + 1, none⟩ = some (.string ⟨y.w.t.toArray⟩) /\ W'.cell? ⟨b, o + k * 3 + 2, none⟩ = some (.slice A2 Q c2) /\ W'.cell? ⟨b', o' + k * 3, none⟩ = some (.string ⟨y.w.f.toArray⟩) /\ W'.cell? ⟨b', o' + k * 3 + 1, none⟩ = some (.string ⟨y.w.t.toArray⟩) /\ W'.cell? ⟨b', o' + k * 3 + 2, none⟩ = some (.slice B2 Q d2) from fun W' h => by
    have q : ∀ j, W'.cell? ⟨b, j, none⟩ = wr.cell? ⟨b, j, none⟩ := fun j => (h.cell (p := ⟨b, j, none⟩) hlb).trans (HBr.out.cell (p := ⟨b, j, none⟩) hlb).symm
    have q' : ∀ j, W'.cell? ⟨b', j, none⟩ = wr.cell? ⟨b', j, none⟩ := fun j => (h.cell (p := ⟨b', j, none⟩) hlb').trans (HBr.out.cell (p := ⟨b', j, none⟩) hlb').symm
    exact ⟨(q _).trans t0, (q _).trans t1, (q _).trans t2, (q' _).trans u0, (q' _).trans u1, (q' _).trans u2⟩)
   clear hlb hlb' s2 s4 ev2 fv2 hQ hd2 hd4 hc2a hc4a hxy
   clear hb1 hc1 hb1' hc1' hx hy kc kc'
   go_upto_region 6 with fail
   refine wp_region_held_drew (S := (fun W' => W'.cell? ⟨b, o + k * 3, none⟩ = some (.string ⟨y.w.f.toArray⟩) /\ W'.cell? ⟨b, o + k * 3 + 1, none⟩ = some (.string ⟨y.w.t.toArray⟩) /\ W'.cell? ⟨b, o + k * 3 + 2, none⟩ = some (.slice A2 Q c2) /\ W'.cell? ⟨b', o' + k * 3, none⟩ = some (.string ⟨y.w.f.toArray⟩) /\ W'.cell? ⟨b', o' + k * 3 + 1, none⟩ = some (.string ⟨y.w.t.toArray⟩) /\ W'.cell? ⟨b', o' + k * 3 + 2, none⟩ = some (.slice B2 Q d2))) (by kernel_rfl) ?ss12 (fun hHeld => ?rr12)
   case ss12 => (try dsimp only); exact ⟨t0, t1, t2, u0, u1, u2⟩
   refine rgt 0 17 rfl rfl hHeld ?_
   try simp only [Act.put, rg1, rg2, rg3]
   refine rgt 1 18 rfl rfl hHeld ?_
   try simp only [Act.put, rg1, rg2, rg3]
   refine rgt 2 19 rfl rfl hHeld ?_
   try simp only [Act.put, rg1, rg2, rg3]
   refine rgt 3 20 rfl rfl hHeld ?_
   try simp only [Act.put, rg1, rg2, rg3]
   refine rgt 4 21 rfl rfl hHeld ?_
   try simp only [Act.put, rg1, rg2, rg3]
   refine rgt 5 22 rfl rfl hHeld ?_
   try simp only [Act.put, rg1, rg2, rg3]
   refine rgt 6 23 rfl rfl hHeld ?_
   try simp only [Act.put, rg1, rg2, rg3]
   refine rgt 7 24 rfl rfl hHeld ?_
   try simp only [Act.put, rg1, rg2, rg3]
   refine rgc 8 (some 25) rfl (fun K hK => ?_)
   go_simp
   ((refine (HCALL.out _ (bdr HBr.out 1)).mono ?_); rintro e w2 ⟨rfl, hb2⟩)
   refine hK.out _ _ ?ss21 (fun hHeld2 => ?rr21)
   case ss21 => (try dsimp only); exact HSS.out _ (bl (bdr HBr.out 1) hb2)
   clear hK K
   clear hHeld
   have hHeld := hHeld2
   clear hHeld2
   try simp only [Act.put, rg1, rg2, rg3]
   refine rgt 9 26 rfl rfl hHeld ?_
   try simp only [Act.put, rg1, rg2, rg3]
   refine wpAnyH_done (by kernel_rfl) ?_ _
   have HB2 := Lib.hid (bl (bdr HBr.out 1) hb2)
   clear hb2 hHeld
   go_wp2_with fail
   go_roundg (N - (k + 1))
   case measure => omega
   case rel => exact ⟨k + 1, by omega, rfl, by go_num, HB2.out⟩
  ·
   go_wp2_with fail
   go_ret
   exact ⟨rfl, HBr.out⟩
end Go.Proofs.YtobplngonkdbpaaGreatDoor.D
/- CgE -/
namespace Go.Proofs.YtobplngonkdbpaaGreatDoor.D
open Go.RowKit
open Go.Proofs.YtobplngonkdbpaaGreatDoor.B
set_option linter.unusedVariables false
set_option linter.unusedSimpArgs false
set_option maxRecDepth 100000 in
set_option maxHeartbeats 1000000 in
theorem eqCode_c (L L' : CoL) (w : World) (h : CR w L) (h' : CR w L') (e : L.code = L'.code) :
  Calls Tryz.prog 18 #[.agg L.vals.toArray, .agg L'.vals.toArray] w fun e w' => e = .returned (.bool true) /\ Below w.heap.size w w' := by
 have ef : L.fns.map (·.f) = L'.fns.map (·.f) := congrArg Cod.fns e
 have ec : L.casts.map (·.w) = L'.casts.map (·.w) := congrArg Cod.casts e
 have en : L.nums = L'.nums := congrArg Cod.nums e
 have et : L.texts = L'.texts := congrArg Cod.texts e
 have ey : L.types = L'.types := congrArg Cod.types e
 have lf : L'.fns.length = L.fns.length := by have := congrArg List.length ef; simpa using this.symm
 have lc : L'.casts.length = L.casts.length := by have := congrArg List.length ec; simpa using this.symm
 obtain ⟨A1, c1, e1, hc1, hd1, s1⟩ := h.f.sl
 obtain ⟨A2, c2, e2, hc2, hd2, s2⟩ := h.c.sl
 obtain ⟨A3, c3, e3, hc3, hd3, s3⟩ := h.n.sl
 obtain ⟨A4, c4, e4, hc4, hd4, s4⟩ := h.t.sl
 obtain ⟨A5, c5, e5, hc5, hd5, s5⟩ := h.y.sl
 obtain ⟨B1, d1, f1, hg1, hi1, t1⟩ := h'.f.sl
 obtain ⟨B2, d2, f2, hg2, hi2, t2⟩ := h'.c.sl
 obtain ⟨B3, d3, f3, hg3, hi3, t3⟩ := h'.n.sl
 obtain ⟨B4, d4, f4, hg4, hi4, t4⟩ := h'.t.sl
 obtain ⟨B5, d5, f5, hg5, hi5, t5⟩ := h'.y.sl
 rw [lf] at f1 t1
 rw [lc] at f2 t2
 rw [<- en] at f3 t3
 rw [<- et] at f4 t4
 rw [<- ey] at f5 t5
 obtain ⟨n1, hn1⟩ : ∃ n, L.fns.length = n := ⟨_, rfl⟩
 obtain ⟨n2, hn2⟩ : ∃ n, L.casts.length = n := ⟨_, rfl⟩
 obtain ⟨n3, hn3⟩ : ∃ n, L.nums.length = n := ⟨_, rfl⟩
 obtain ⟨n4, hn4⟩ : ∃ n, L.texts.length = n := ⟨_, rfl⟩
 obtain ⟨n5, hn5⟩ : ∃ n, L.types.length = n := ⟨_, rfl⟩
 rw [hn1] at e1 f1 s1 t1 hc1
 rw [hn2] at e2 f2 s2 t2 hc2
 rw [hn3] at e3 f3 s3 t3 hc3
 rw [hn4] at e4 f4 s4 t4 hc4
 rw [hn5] at e5 f5 s5 t5 hc5
 simp only [maxLen] at hd1 hd2 hd3 hd4 hd5
 rw [show L.vals.toArray = #[.slice A1 n1 c1, .slice A2 n2 c2, .slice A3 n3 c3, .slice A4 n4 c4, .slice A5 n5 c5] by unfold CoL.vals; rw [e1, e2, e3, e4, e5]]
 rw [show L'.vals.toArray = #[.slice B1 n1 d1, .slice B2 n2 d2, .slice B3 n3 d3, .slice B4 n4 d4, .slice B5 n5 d5] by unfold CoL.vals; rw [f1, f2, f3, f4, f5]]
 have HF := Lib.hid (fun W (hb : Below w.heap.size w W) => eqFns_c L.fns L'.fns n1 A1 B1 c1 d1 W hn1 ef (by omega) ((s1.below hb).more hb.size) ((t1.below hb).more hb.size) (fun g hg => (h.fe g hg).grow hb) (fun g hg => (h.fc g hg).grow hb) (fun g hg => (h'.fe g hg).grow hb) (fun g hg => (h'.fc g hg).grow hb))
 have HW := Lib.hid (fun W (hb : Below w.heap.size w W) => eqWaits_c L.casts L'.casts n2 A2 B2 c2 d2 W hn2 ec (by omega) ((s2.below hb).more hb.size) ((t2.below hb).more hb.size) (fun g hg => (h.co g hg).grow hb) (fun g hg => (h'.co g hg).grow hb))
 have HN := Lib.hid (fun W (hb : Below w.heap.size w W) => eqLongs_c L.nums n3 A3 B3 c3 d3 W hn3 (by omega) ((s3.below hb).more hb.size) ((t3.below hb).more hb.size))
 have HT := Lib.hid (fun W (hb : Below w.heap.size w W) => eqTexts_c L.texts n4 A4 B4 c4 d4 W hn4 (by omega) ((s4.below hb).more hb.size) ((t4.below hb).more hb.size))
 have HY := Lib.hid (fun W (hb : Below w.heap.size w W) => eqTexts_c L.types n5 A5 B5 c5 d5 W hn5 (by omega) ((s5.below hb).more hb.size) ((t5.below hb).more hb.size))
 obtain ⟨g0, hg0⟩ : ∃ x, w.heap.size = x := ⟨_, rfl⟩
 obtain ⟨W1, hW1⟩ : ∃ W1, ((w.alloc (.cells #[.slice A1 n1 c1, .slice A2 n2 c2, .slice A3 n3 c3, .slice A4 n4 c4, .slice A5 n5 c5] 27)).alloc (.cells #[.slice B1 n1 d1, .slice B2 n2 d2, .slice B3 n3 d3, .slice B4 n4 d4, .slice B5 n5 d5] 27)) = W1 := ⟨_, rfl⟩
 have hb1 : Below w.heap.size w W1 := by rw [<- hW1]; exact bal (bal b0 _) _
 have k1 : Blk W1 g0 27 #[.slice A1 n1 c1, .slice A2 n2 c2, .slice A3 n3 c3, .slice A4 n4 c4, .slice A5 n5 c5] := by rw [<- hW1, <- hg0]; exact (Blk.new w _ _).alloc _
 have k2 : Blk W1 (g0 + 1) 27 #[.slice B1 n1 d1, .slice B2 n2 d2, .slice B3 n3 d3, .slice B4 n4 d4, .slice B5 n5 d5] := by
  rw [<- hW1, <- hg0]
  have := Blk.new (w.alloc (.cells #[.slice A1 n1 c1, .slice A2 n2 c2, .slice A3 n3 c3, .slice A4 n4 c4, .slice A5 n5 c5] 27)) 27 #[.slice B1 n1 d1, .slice B2 n2 d2, .slice B3 n3 d3, .slice B4 n4 d4, .slice B5 n5 d5]
  simpa only [World.size_alloc] using this
 have x0 : W1.cell? ⟨g0, 0, none⟩ = some (.slice A1 n1 c1) := (k1.cell 0).trans rfl
 have z0 : W1.cell? ⟨g0 + 1, 0, none⟩ = some (.slice B1 n1 d1) := (k2.cell 0).trans rfl
 have HK := Lib.hid (And.intro hb1 (And.intro k1 k2))
 clear h h' e ef ec en et ey lf lc e1 e2 e3 e4 e5 f1 f2 f3 f4 f5 s1 s2 s3 s4 s5 t1 t2 t3 t4 t5 hn1 hn2 hn3 hn4 hn5 hc1 hc2 hc3 hc4 hc5 hd1 hd2 hd3 hd4 hd5 hg1 hg2 hg3 hg4 hg5 hi1 hi2 hi3 hi4 hi5 hb1 k1 k2
 go_enter Tryz.func18, Tryz.ntmps18
 go_upto_region 1 with fail
 clear hW1 hg0
 go_wp2_with fail
 (refine (HF.out _ HK.out.1).mono ?_); rintro ev w2 ⟨rfl, hb2'⟩
 have hb2 : Below W1.heap.size W1 w2 := hb2'
 have x1 : w2.cell? ⟨g0, 1, none⟩ = some (.slice A2 n2 c2) := ((HK.out.2.1.below hb2 HK.out.2.1.lt).cell 1).trans rfl
 have z1 : w2.cell? ⟨g0 + 1, 1, none⟩ = some (.slice B2 n2 d2) := ((HK.out.2.2.below hb2 HK.out.2.2.lt).cell 1).trans rfl
 have HB2 := Lib.hid hb2
 clear hb2 hb2'
 go_wp2_with fail
 (refine (HW.out _ (bl HK.out.1 HB2.out)).mono ?_); rintro ev w3 ⟨rfl, hb3'⟩
 have hb3 : Below W1.heap.size W1 w3 := bl HB2.out hb3'
 have x2 : w3.cell? ⟨g0, 2, none⟩ = some (.slice A3 n3 c3) := ((HK.out.2.1.below hb3 HK.out.2.1.lt).cell 2).trans rfl
 have z2 : w3.cell? ⟨g0 + 1, 2, none⟩ = some (.slice B3 n3 d3) := ((HK.out.2.2.below hb3 HK.out.2.2.lt).cell 2).trans rfl
 have HB3 := Lib.hid hb3
 clear hb3 hb3'
 go_wp2_with fail
 (refine (HN.out _ (bl HK.out.1 HB3.out)).mono ?_); rintro ev w4 ⟨rfl, hb4'⟩
 have hb4 : Below W1.heap.size W1 w4 := bl HB3.out hb4'
 have x3 : w4.cell? ⟨g0, 3, none⟩ = some (.slice A4 n4 c4) := ((HK.out.2.1.below hb4 HK.out.2.1.lt).cell 3).trans rfl
 have z3 : w4.cell? ⟨g0 + 1, 3, none⟩ = some (.slice B4 n4 d4) := ((HK.out.2.2.below hb4 HK.out.2.2.lt).cell 3).trans rfl
 have HB4 := Lib.hid hb4
 clear hb4 hb4'
 go_wp2_with fail
 (refine (HT.out _ (bl HK.out.1 HB4.out)).mono ?_); rintro ev w5 ⟨rfl, hb5'⟩
 have hb5 : Below W1.heap.size W1 w5 := bl HB4.out hb5'
 have x4 : w5.cell? ⟨g0, 4, none⟩ = some (.slice A5 n5 c5) := ((HK.out.2.1.below hb5 HK.out.2.1.lt).cell 4).trans rfl
 have z4 : w5.cell? ⟨g0 + 1, 4, none⟩ = some (.slice B5 n5 d5) := ((HK.out.2.2.below hb5 HK.out.2.2.lt).cell 4).trans rfl
 have HB5 := Lib.hid hb5
 clear hb5 hb5'
 go_wp2_with fail
 (refine (HY.out _ (bl HK.out.1 HB5.out)).mono ?_); rintro ev w6 ⟨rfl, hb6'⟩
 have HB6 := Lib.hid (bl (bl HK.out.1 HB5.out) hb6')
 clear hb6'
 go_wp2_with fail
 go_ret
 exact ⟨rfl, HB6.out⟩
end Go.Proofs.YtobplngonkdbpaaGreatDoor.D
/- CgF -/
namespace Go.Proofs.YtobplngonkdbpaaGreatDoor.D
open Go.RowKit
open Go.Proofs.YtobplngonkdbpaaGreatDoor.B
set_option linter.unusedVariables false
set_option linter.unusedSimpArgs false
end Go.Proofs.YtobplngonkdbpaaGreatDoor.D
/- CgG -/
namespace Go.Proofs.YtobplngonkdbpaaGreatDoor.D
open Go.RowKit
open Go.Proofs.YtobplngonkdbpaaGreatDoor.B
set_option linter.unusedVariables false
set_option linter.unusedSimpArgs false
/-- Lists of at most so many. -/
structure CB (L : CoL) : Prop where
 f : L.fns.length <= 1073741824
 c : L.casts.length <= 1073741824
 n : L.nums.length <= 1073741824
 t : L.texts.length <= 1073741824
 y : L.types.length <= 1073741824
 fe : ∀ g ∈ L.fns, g.f.env.length <= 1073741824
 fc : ∀ g ∈ L.fns, g.f.code.length <= 1073741824
 co : ∀ g ∈ L.casts, g.w.co.length <= 1073741824
section
variable {w W W' : World} {g0 : Nat} {cs : Array Value} {fs : List FuL} {ws : List WtL} {rows : List Rw}
end
end Go.Proofs.YtobplngonkdbpaaGreatDoor.D
