/- Parts of this claim: AoA. -/
import Derived.Test.YtobplngonkdbpaaGreatDoorP30
import Derived.Test.YtobplngonkdbpaaGreatDoorP05
set_option linter.unusedVariables false
set_option linter.unusedSimpArgs false
/- AoA -/
namespace Go.Proofs.YtobplngonkdbpaaGreatDoor.D
open Go.RowKit
open Go.Proofs.YtobplngonkdbpaaGreatDoor.B
set_option linter.unusedVariables false
set_option linter.unusedSimpArgs false
theorem str_add {P : Program} {a b c : Bs} (h : a ++ b = c) (hl : a.length + b.length <= 4611686018427387903) (W : World) : (Op.stringOp .add ⟨a.toArray⟩ ⟨b.toArray⟩).run P W = .ok (.string ⟨c.toArray⟩) W := by
 have := run_string_add_sum (P := P) W ⟨a.toArray⟩ ⟨b.toArray⟩ (by rw [str_size, str_size]; omega)
 rw [this, <- h]
 congr 2
theorem numT_any (n : Int) (w : World) (hn : inR n) (hg : Gl w) :
  Calls Tryz.prog 38 #[.int .i64 n] w fun e w' => e = .returned (strV (Lib.itoa n)) /\ Below w.heap.size w w' := by
 have h := num_p n w hn hg
 clear hn hg
 go_enter Tryz.func38, Tryz.ntmps38
 go_wp2_with fail
 (refine h.mono ?_); rintro ev w1 ⟨rfl, hb⟩
 go_wp2_with fail
 go_ret
 exact ⟨rfl, hb⟩
theorem joinC_two (c : UInt8) (w v : Bs) (r : List Bs) : joinC c (w :: v :: r) = w ++ c :: joinC c (v :: r) := rfl
theorem joinC_one (c : UInt8) (w : Bs) : joinC c [w] = w := rfl
set_option maxRecDepth 100000 in
set_option maxHeartbeats 4000000 in
theorem coText_any (c : Nd) (w : World) (h : c.ok) (hg : Gl w) :
  Calls Tryz.prog 97 #[.agg (ndC c).toArray] w fun e w' => e = .returned (strV (ndW c)) /\ Below w.heap.size w w' := by
 obtain ⟨h1, h2, h3, h4, h5, h6, h7, h8, h9, h10⟩ := h
 have ho := small_inR h1 (by omega)
 have hh := small_inR (show -128 <= c.head by omega) h5
 have hf := small_inR (show -128 <= c.from_ by omega) h8
 have ht := small_inR (show -128 <= c.to_ by omega) h10
 have hn := Lib.hid (fun n W (hn : inR n) (hb : Below w.heap.size w W) => numT_any n W hn (hg.on hb))
 have wo : IntKind.i64.wrap c.op = c.op := IntWalk.i64_in _ ho
 have wh : IntKind.i64.wrap c.head = c.head := IntWalk.i64_in _ hh
 have wf : IntKind.i64.wrap c.from_ = c.from_ := IntWalk.i64_in _ hf
 have wt : IntKind.i64.wrap c.to_ = c.to_ := IntWalk.i64_in _ ht
 have HIN := Lib.hid (And.intro ho (And.intro h3 (And.intro hh (And.intro h6 (And.intro hf ht)))))
 have n1 := itoa_len ho; have n2 := itoa_len h3; have n3 := itoa_len hh; have n4 := itoa_len h6; have n5 := itoa_len hf; have n6 := itoa_len ht
 rw [ndW_eq]
 clear hg
 unfold strV at hn
 unfold ndC
 obtain ⟨inj, hinj⟩ : ∃ x : Bs, (if c.inj = true then [49] else [48]) = x := ⟨_, rfl⟩
 have hil : inj.length = 1 := by rw [<- hinj]; split <;> rfl
 rw [hinj]
 obtain ⟨a1, ha1⟩ : ∃ x, Lib.itoa c.op = x := ⟨_, rfl⟩
 obtain ⟨a2, ha2⟩ : ∃ x, Lib.itoa c.proj = x := ⟨_, rfl⟩
 obtain ⟨a4, ha4⟩ : ∃ x, Lib.itoa c.head = x := ⟨_, rfl⟩
 obtain ⟨a5, ha5⟩ : ∃ x, Lib.itoa c.lab = x := ⟨_, rfl⟩
 obtain ⟨a6, ha6⟩ : ∃ x, Lib.itoa c.from_ = x := ⟨_, rfl⟩
 obtain ⟨a7, ha7⟩ : ∃ x, Lib.itoa c.to_ = x := ⟨_, rfl⟩
 have HA := Lib.hid (show Lib.itoa c.op = a1 /\ Lib.itoa c.proj = a2 /\ Lib.itoa c.head = a4 /\ Lib.itoa c.lab = a5 /\ Lib.itoa c.from_ = a6 /\ Lib.itoa c.to_ = a7 from ⟨ha1, ha2, ha4, ha5, ha6, ha7⟩)
 rw [ha1] at n1 ⊢; rw [ha2] at n2 ⊢; rw [ha4] at n3 ⊢; rw [ha5] at n4 ⊢; rw [ha6] at n5 ⊢; rw [ha7] at n6 ⊢
 clear ha1 ha2 ha4 ha5 ha6 ha7
 obtain ⟨x1, hx1⟩ : ∃ x, a1 ++ [46] = x := ⟨_, rfl⟩
 have l1 : x1.length = a1.length + 1 := by rw [<- hx1, List.length_append]; rfl
 have s1 := fun W => str_add (P := Tryz.prog) hx1 (by show a1.length + 1 <= _; omega) W
 obtain ⟨x2, hx2⟩ : ∃ x, x1 ++ a2 = x := ⟨_, rfl⟩
 have l2 : x2.length = x1.length + a2.length := by rw [<- hx2, List.length_append]
 have s2 := fun W => str_add (P := Tryz.prog) hx2 (by skip; omega) W
 obtain ⟨x3, hx3⟩ : ∃ x, x2 ++ [46] = x := ⟨_, rfl⟩
 have l3 : x3.length = x2.length + 1 := by rw [<- hx3, List.length_append]; rfl
 have s3 := fun W => str_add (P := Tryz.prog) hx3 (by show x2.length + 1 <= _; omega) W
 obtain ⟨x4, hx4⟩ : ∃ x, x3 ++ inj = x := ⟨_, rfl⟩
 have l4 : x4.length = x3.length + inj.length := by rw [<- hx4, List.length_append]
 have s4 := fun W => str_add (P := Tryz.prog) hx4 (by skip; omega) W
 obtain ⟨x5, hx5⟩ : ∃ x, x4 ++ [46] = x := ⟨_, rfl⟩
 have l5 : x5.length = x4.length + 1 := by rw [<- hx5, List.length_append]; rfl
 have s5 := fun W => str_add (P := Tryz.prog) hx5 (by show x4.length + 1 <= _; omega) W
 obtain ⟨x6, hx6⟩ : ∃ x, x5 ++ a4 = x := ⟨_, rfl⟩
 have l6 : x6.length = x5.length + a4.length := by rw [<- hx6, List.length_append]
 have s6 := fun W => str_add (P := Tryz.prog) hx6 (by skip; omega) W
 obtain ⟨x7, hx7⟩ : ∃ x, x6 ++ [46] = x := ⟨_, rfl⟩
 have l7 : x7.length = x6.length + 1 := by rw [<- hx7, List.length_append]; rfl
 have s7 := fun W => str_add (P := Tryz.prog) hx7 (by show x6.length + 1 <= _; omega) W
 obtain ⟨x8, hx8⟩ : ∃ x, x7 ++ a5 = x := ⟨_, rfl⟩
 have l8 : x8.length = x7.length + a5.length := by rw [<- hx8, List.length_append]
 have s8 := fun W => str_add (P := Tryz.prog) hx8 (by skip; omega) W
 obtain ⟨x9, hx9⟩ : ∃ x, x8 ++ [46] = x := ⟨_, rfl⟩
 have l9 : x9.length = x8.length + 1 := by rw [<- hx9, List.length_append]; rfl
 have s9 := fun W => str_add (P := Tryz.prog) hx9 (by show x8.length + 1 <= _; omega) W
 obtain ⟨x10, hx10⟩ : ∃ x, x9 ++ a6 = x := ⟨_, rfl⟩
 have l10 : x10.length = x9.length + a6.length := by rw [<- hx10, List.length_append]
 have s10 := fun W => str_add (P := Tryz.prog) hx10 (by skip; omega) W
 obtain ⟨x11, hx11⟩ : ∃ x, x10 ++ [46] = x := ⟨_, rfl⟩
 have l11 : x11.length = x10.length + 1 := by rw [<- hx11, List.length_append]; rfl
 have s11 := fun W => str_add (P := Tryz.prog) hx11 (by show x10.length + 1 <= _; omega) W
 obtain ⟨x12, hx12⟩ : ∃ x, x11 ++ a7 = x := ⟨_, rfl⟩
 have l12 : x12.length = x11.length + a7.length := by rw [<- hx12, List.length_append]
 have s12 := fun W => str_add (P := Tryz.prog) hx12 (by skip; omega) W
 have hfin : joinC 46 [a1, a2, inj, a4, a5, a6, a7] = x12 := by
  simp only [joinC_two, joinC_one, <- hx12, <- hx11, <- hx10, <- hx9, <- hx8, <- hx7, <- hx6, <- hx5, <- hx4, <- hx3, <- hx2, <- hx1, List.append_assoc, List.cons_append, List.nil_append]
 rw [hfin]
 clear hfin hil n1 n2 n3 n4 n5 n6 hx1 l1 hx2 l2 hx3 l3 hx4 l4 hx5 l5 hx6 l6 hx7 l7 hx8 l8 hx9 l9 hx10 l10 hx11 l11 hx12 l12
 have hinj2 : (inj = [48] /\ c.inj = false) \/ (inj = [49] /\ c.inj = true) := by
  rw [<- hinj]; rcases c.inj with _ | _
  · left; exact ⟨rfl, rfl⟩
  · right; exact ⟨rfl, rfl⟩
 clear hinj
 rcases hinj2 with ⟨rfl, hi⟩ | ⟨rfl, hi⟩
 ·
  rw [hi]
  go_enter Tryz.func97, Tryz.ntmps97
  go_upto_region 4 with fail
  obtain ⟨b, hb⟩ : ∃ b, w.heap.size = b := ⟨_, rfl⟩
  obtain ⟨W1, hW1⟩ : ∃ W1, w.alloc (.cells #[.int .i8 c.op, .int .i64 c.proj, .bool false, .int .u8 c.head, .int .i64 c.lab, .int .u8 c.from_, .int .u8 c.to_] 86) = W1 := ⟨_, rfl⟩
  have hb1 : Below w.heap.size w W1 := by rw [<- hW1]; exact bal (Below.refl _ _) _
  have hbk : Blk W1 b 86 #[.int .i8 c.op, .int .i64 c.proj, .bool false, .int .u8 c.head, .int .i64 c.lab, .int .u8 c.from_, .int .u8 c.to_] := by rw [<- hW1, <- hb]; exact Blk.new _ _ _
  rw [hW1, hb]
  have HS := Lib.hid (show ∀ W, Below W1.heap.size W1 W -> Below W1.heap.size W1 W /\ W.cell? ⟨b, 0, none⟩ = some (.int .i8 c.op) /\ W.cell? ⟨b, 1, none⟩ = some (.int .i64 c.proj) /\ W.cell? ⟨b, 3, none⟩ = some (.int .u8 c.head) /\ W.cell? ⟨b, 4, none⟩ = some (.int .i64 c.lab) /\ W.cell? ⟨b, 5, none⟩ = some (.int .u8 c.from_) /\ W.cell? ⟨b, 6, none⟩ = some (.int .u8 c.to_) from fun W hw => by
   have k := hbk.below hw hbk.lt
   exact ⟨hw, (k.cell 0).trans rfl, (k.cell 1).trans rfl, (k.cell 3).trans rfl, (k.cell 4).trans rfl, (k.cell 5).trans rfl, (k.cell 6).trans rfl⟩)
  have HB1 := Lib.hid hb1
  clear hb1 hbk hW1 hb
  refine wp_region_held_drew (S := (fun W => Below W1.heap.size W1 W /\ W.cell? ⟨b, 0, none⟩ = some (.int .i8 c.op) /\ W.cell? ⟨b, 1, none⟩ = some (.int .i64 c.proj) /\ W.cell? ⟨b, 3, none⟩ = some (.int .u8 c.head) /\ W.cell? ⟨b, 4, none⟩ = some (.int .i64 c.lab) /\ W.cell? ⟨b, 5, none⟩ = some (.int .u8 c.from_) /\ W.cell? ⟨b, 6, none⟩ = some (.int .u8 c.to_))) (by kernel_rfl) ?ss1 (fun hHeld => ?rr1)
  case ss1 => (try dsimp only); exact HS.out _ (Below.refl _ _).drew
  refine rgt 0 6 rfl rfl hHeld ?_
  try simp only [Act.put, rg1, rg2, rg3]
  refine rgt 1 7 rfl rfl hHeld ?_
  try simp only [Act.put, rg1, rg2, rg3]
  refine rgt 2 8 rfl rfl hHeld ?_
  try simp only [Act.put, rg1, rg2, rg3]
  refine rgt 5 11 rfl rfl hHeld ?_
  try simp only [Act.put, rg1, rg2, rg3]
  refine rgt 6 12 rfl rfl hHeld ?_
  try simp only [Act.put, rg1, rg2, rg3]
  refine rgt 10 16 rfl rfl hHeld ?_
  try simp only [Act.put, rg1, rg2, rg3]
  refine rgt 13 19 rfl rfl hHeld ?_
  try simp only [Act.put, rg1, rg2, rg3]
  refine rgt 14 20 rfl rfl hHeld ?_
  try simp only [Act.put, rg1, rg2, rg3]
  refine rgt 15 21 rfl rfl hHeld ?_
  try simp only [Act.put, rg1, rg2, rg3]
  refine rgt 19 25 rfl rfl hHeld ?_
  try simp only [Act.put, rg1, rg2, rg3]
  refine rgt 20 26 rfl rfl hHeld ?_
  try simp only [Act.put, rg1, rg2, rg3]
  refine rgt 24 30 rfl rfl hHeld ?_
  try simp only [Act.put, rg1, rg2, rg3]
  refine rgt 25 31 rfl rfl hHeld ?_
  try simp only [Act.put, rg1, rg2, rg3]
  refine rgt 26 32 rfl rfl hHeld ?_
  try simp only [Act.put, rg1, rg2, rg3]
  refine rgt 30 36 rfl rfl hHeld ?_
  try simp only [Act.put, rg1, rg2, rg3]
  refine rgt 31 37 rfl rfl hHeld ?_
  try simp only [Act.put, rg1, rg2, rg3]
  refine rgt 32 38 rfl rfl hHeld ?_
  try simp only [Act.put, rg1, rg2, rg3]
  refine rgc 3 (some 9) rfl (fun K hK => ?_)
  go_simp
  ((refine (hn.out _ _ HIN.out.1 (bl HB1.out hHeld.1)).mono ?_); rintro e w13 ⟨rfl, hb13⟩; rw [HA.out.1])
  refine hK.out _ _ ?ss19 (fun hHeld2 => ?rr19)
  case ss19 => (try dsimp only); exact HS.out _ (bl hHeld.1 hb13)
  clear hK K
  clear hHeld
  have hHeld := hHeld2
  clear hHeld2
  try simp only [Act.put, rg1, rg2, rg3]
  refine rgt 4 10 rfl rfl hHeld ?_
  try simp only [Act.put, rg1, rg2, rg3]
  refine rgc 7 (some 13) rfl (fun K hK => ?_)
  go_simp
  ((refine (hn.out _ _ HIN.out.2.1 (bl HB1.out hHeld.1)).mono ?_); rintro e w17 ⟨rfl, hb17⟩; rw [HA.out.2.1])
  refine hK.out _ _ ?ss21 (fun hHeld2 => ?rr21)
  case ss21 => (try dsimp only); exact HS.out _ (bl hHeld.1 hb17)
  clear hK K
  clear hHeld
  have hHeld := hHeld2
  clear hHeld2
  try simp only [Act.put, rg1, rg2, rg3]
  refine rgt 8 14 rfl rfl hHeld ?_
  try simp only [Act.put, rg1, rg2, rg3]
  refine rgt 9 15 rfl rfl hHeld ?_
  try simp only [Act.put, rg1, rg2, rg3]
  refine rgt 11 17 rfl rfl hHeld ?_
  try simp only [Act.put, rg1, rg2, rg3]
  refine rgt 12 18 rfl rfl hHeld ?_
  try simp only [Act.put, rg1, rg2, rg3]
  refine rgc 16 (some 22) rfl (fun K hK => ?_)
  go_simp
  ((refine (hn.out _ _ HIN.out.2.2.1 (bl HB1.out hHeld.1)).mono ?_); rintro e w26 ⟨rfl, hb26⟩; rw [HA.out.2.2.1])
  refine hK.out _ _ ?ss26 (fun hHeld2 => ?rr26)
  case ss26 => (try dsimp only); exact HS.out _ (bl hHeld.1 hb26)
  clear hK K
  clear hHeld
  have hHeld := hHeld2
  clear hHeld2
  try simp only [Act.put, rg1, rg2, rg3]
  refine rgt 17 23 rfl rfl hHeld ?_
  try simp only [Act.put, rg1, rg2, rg3]
  refine rgt 18 24 rfl rfl hHeld ?_
  try simp only [Act.put, rg1, rg2, rg3]
  refine rgc 21 (some 27) rfl (fun K hK => ?_)
  go_simp
  ((refine (hn.out _ _ HIN.out.2.2.2.1 (bl HB1.out hHeld.1)).mono ?_); rintro e w31 ⟨rfl, hb31⟩; rw [HA.out.2.2.2.1])
  refine hK.out _ _ ?ss29 (fun hHeld2 => ?rr29)
  case ss29 => (try dsimp only); exact HS.out _ (bl hHeld.1 hb31)
  clear hK K
  clear hHeld
  have hHeld := hHeld2
  clear hHeld2
  try simp only [Act.put, rg1, rg2, rg3]
  refine rgt 22 28 rfl rfl hHeld ?_
  try simp only [Act.put, rg1, rg2, rg3]
  refine rgt 23 29 rfl rfl hHeld ?_
  try simp only [Act.put, rg1, rg2, rg3]
  refine rgc 27 (some 33) rfl (fun K hK => ?_)
  go_simp
  ((refine (hn.out _ _ HIN.out.2.2.2.2.1 (bl HB1.out hHeld.1)).mono ?_); rintro e w37 ⟨rfl, hb37⟩; rw [HA.out.2.2.2.2.1])
  refine hK.out _ _ ?ss32 (fun hHeld2 => ?rr32)
  case ss32 => (try dsimp only); exact HS.out _ (bl hHeld.1 hb37)
  clear hK K
  clear hHeld
  have hHeld := hHeld2
  clear hHeld2
  try simp only [Act.put, rg1, rg2, rg3]
  refine rgt 28 34 rfl rfl hHeld ?_
  try simp only [Act.put, rg1, rg2, rg3]
  refine rgt 29 35 rfl rfl hHeld ?_
  try simp only [Act.put, rg1, rg2, rg3]
  refine rgc 33 (some 39) rfl (fun K hK => ?_)
  go_simp
  ((refine (hn.out _ _ HIN.out.2.2.2.2.2 (bl HB1.out hHeld.1)).mono ?_); rintro e w43 ⟨rfl, hb43⟩; rw [HA.out.2.2.2.2.2])
  refine hK.out _ _ ?ss35 (fun hHeld2 => ?rr35)
  case ss35 => (try dsimp only); exact HS.out _ (bl hHeld.1 hb43)
  clear hK K
  clear hHeld
  have hHeld := hHeld2
  clear hHeld2
  try simp only [Act.put, rg1, rg2, rg3]
  refine rgt 34 40 rfl rfl hHeld ?_
  try simp only [Act.put, rg1, rg2, rg3]
  refine rgt 35 2 rfl rfl hHeld ?_
  try simp only [Act.put, rg1, rg2, rg3]
  refine wpAnyH_done (by kernel_rfl) ?_ _
  go_wp2_with fail
  go_ret
  exact ⟨rfl, bl HB1.out hHeld.1⟩
 ·
  rw [hi]
  go_enter Tryz.func97, Tryz.ntmps97
  go_upto_region 4 with fail
  obtain ⟨b, hb⟩ : ∃ b, w.heap.size = b := ⟨_, rfl⟩
  obtain ⟨W1, hW1⟩ : ∃ W1, w.alloc (.cells #[.int .i8 c.op, .int .i64 c.proj, .bool true, .int .u8 c.head, .int .i64 c.lab, .int .u8 c.from_, .int .u8 c.to_] 86) = W1 := ⟨_, rfl⟩
  have hb1 : Below w.heap.size w W1 := by rw [<- hW1]; exact bal (Below.refl _ _) _
  have hbk : Blk W1 b 86 #[.int .i8 c.op, .int .i64 c.proj, .bool true, .int .u8 c.head, .int .i64 c.lab, .int .u8 c.from_, .int .u8 c.to_] := by rw [<- hW1, <- hb]; exact Blk.new _ _ _
  rw [hW1, hb]
  have HS := Lib.hid (show ∀ W, Below W1.heap.size W1 W -> Below W1.heap.size W1 W /\ W.cell? ⟨b, 0, none⟩ = some (.int .i8 c.op) /\ W.cell? ⟨b, 1, none⟩ = some (.int .i64 c.proj) /\ W.cell? ⟨b, 3, none⟩ = some (.int .u8 c.head) /\ W.cell? ⟨b, 4, none⟩ = some (.int .i64 c.lab) /\ W.cell? ⟨b, 5, none⟩ = some (.int .u8 c.from_) /\ W.cell? ⟨b, 6, none⟩ = some (.int .u8 c.to_) from fun W hw => by
   have k := hbk.below hw hbk.lt
   exact ⟨hw, (k.cell 0).trans rfl, (k.cell 1).trans rfl, (k.cell 3).trans rfl, (k.cell 4).trans rfl, (k.cell 5).trans rfl, (k.cell 6).trans rfl⟩)
  have HB1 := Lib.hid hb1
  clear hb1 hbk hW1 hb
  refine wp_region_held_drew (S := (fun W => Below W1.heap.size W1 W /\ W.cell? ⟨b, 0, none⟩ = some (.int .i8 c.op) /\ W.cell? ⟨b, 1, none⟩ = some (.int .i64 c.proj) /\ W.cell? ⟨b, 3, none⟩ = some (.int .u8 c.head) /\ W.cell? ⟨b, 4, none⟩ = some (.int .i64 c.lab) /\ W.cell? ⟨b, 5, none⟩ = some (.int .u8 c.from_) /\ W.cell? ⟨b, 6, none⟩ = some (.int .u8 c.to_))) (by kernel_rfl) ?ss38 (fun hHeld => ?rr38)
  case ss38 => (try dsimp only); exact HS.out _ (Below.refl _ _).drew
  refine rgt 0 6 rfl rfl hHeld ?_
  try simp only [Act.put, rg1, rg2, rg3]
  refine rgt 1 7 rfl rfl hHeld ?_
  try simp only [Act.put, rg1, rg2, rg3]
  refine rgt 2 8 rfl rfl hHeld ?_
  try simp only [Act.put, rg1, rg2, rg3]
  refine rgt 5 11 rfl rfl hHeld ?_
  try simp only [Act.put, rg1, rg2, rg3]
  refine rgt 6 12 rfl rfl hHeld ?_
  try simp only [Act.put, rg1, rg2, rg3]
  refine rgt 10 16 rfl rfl hHeld ?_
  try simp only [Act.put, rg1, rg2, rg3]
  refine rgt 13 19 rfl rfl hHeld ?_
  try simp only [Act.put, rg1, rg2, rg3]
  refine rgt 14 20 rfl rfl hHeld ?_
  try simp only [Act.put, rg1, rg2, rg3]
  refine rgt 15 21 rfl rfl hHeld ?_
  try simp only [Act.put, rg1, rg2, rg3]
  refine rgt 19 25 rfl rfl hHeld ?_
  try simp only [Act.put, rg1, rg2, rg3]
  refine rgt 20 26 rfl rfl hHeld ?_
  try simp only [Act.put, rg1, rg2, rg3]
  refine rgt 24 30 rfl rfl hHeld ?_
  try simp only [Act.put, rg1, rg2, rg3]
  refine rgt 25 31 rfl rfl hHeld ?_
  try simp only [Act.put, rg1, rg2, rg3]
  refine rgt 26 32 rfl rfl hHeld ?_
  try simp only [Act.put, rg1, rg2, rg3]
  refine rgt 30 36 rfl rfl hHeld ?_
  try simp only [Act.put, rg1, rg2, rg3]
  refine rgt 31 37 rfl rfl hHeld ?_
  try simp only [Act.put, rg1, rg2, rg3]
  refine rgt 32 38 rfl rfl hHeld ?_
  try simp only [Act.put, rg1, rg2, rg3]
  refine rgc 3 (some 9) rfl (fun K hK => ?_)
  go_simp
  ((refine (hn.out _ _ HIN.out.1 (bl HB1.out hHeld.1)).mono ?_); rintro e w13 ⟨rfl, hb13⟩; rw [HA.out.1])
  refine hK.out _ _ ?ss56 (fun hHeld2 => ?rr56)
  case ss56 => (try dsimp only); exact HS.out _ (bl hHeld.1 hb13)
  clear hK K
  clear hHeld
  have hHeld := hHeld2
  clear hHeld2
  try simp only [Act.put, rg1, rg2, rg3]
  refine rgt 4 10 rfl rfl hHeld ?_
  try simp only [Act.put, rg1, rg2, rg3]
  refine rgc 7 (some 13) rfl (fun K hK => ?_)
  go_simp
  ((refine (hn.out _ _ HIN.out.2.1 (bl HB1.out hHeld.1)).mono ?_); rintro e w17 ⟨rfl, hb17⟩; rw [HA.out.2.1])
  refine hK.out _ _ ?ss58 (fun hHeld2 => ?rr58)
  case ss58 => (try dsimp only); exact HS.out _ (bl hHeld.1 hb17)
  clear hK K
  clear hHeld
  have hHeld := hHeld2
  clear hHeld2
  try simp only [Act.put, rg1, rg2, rg3]
  refine rgt 8 14 rfl rfl hHeld ?_
  try simp only [Act.put, rg1, rg2, rg3]
  refine rgt 9 15 rfl rfl hHeld ?_
  try simp only [Act.put, rg1, rg2, rg3]
  refine rgt 11 17 rfl rfl hHeld ?_
  try simp only [Act.put, rg1, rg2, rg3]
  refine rgt 12 18 rfl rfl hHeld ?_
  try simp only [Act.put, rg1, rg2, rg3]
  refine rgc 16 (some 22) rfl (fun K hK => ?_)
  go_simp
  ((refine (hn.out _ _ HIN.out.2.2.1 (bl HB1.out hHeld.1)).mono ?_); rintro e w26 ⟨rfl, hb26⟩; rw [HA.out.2.2.1])
  refine hK.out _ _ ?ss63 (fun hHeld2 => ?rr63)
  case ss63 => (try dsimp only); exact HS.out _ (bl hHeld.1 hb26)
  clear hK K
  clear hHeld
  have hHeld := hHeld2
  clear hHeld2
  try simp only [Act.put, rg1, rg2, rg3]
  refine rgt 17 23 rfl rfl hHeld ?_
  try simp only [Act.put, rg1, rg2, rg3]
  refine rgt 18 24 rfl rfl hHeld ?_
  try simp only [Act.put, rg1, rg2, rg3]
  refine rgc 21 (some 27) rfl (fun K hK => ?_)
  go_simp
  ((refine (hn.out _ _ HIN.out.2.2.2.1 (bl HB1.out hHeld.1)).mono ?_); rintro e w31 ⟨rfl, hb31⟩; rw [HA.out.2.2.2.1])
  refine hK.out _ _ ?ss66 (fun hHeld2 => ?rr66)
  case ss66 => (try dsimp only); exact HS.out _ (bl hHeld.1 hb31)
  clear hK K
  clear hHeld
  have hHeld := hHeld2
  clear hHeld2
  try simp only [Act.put, rg1, rg2, rg3]
  refine rgt 22 28 rfl rfl hHeld ?_
  try simp only [Act.put, rg1, rg2, rg3]
  refine rgt 23 29 rfl rfl hHeld ?_
  try simp only [Act.put, rg1, rg2, rg3]
  refine rgc 27 (some 33) rfl (fun K hK => ?_)
  go_simp
  ((refine (hn.out _ _ HIN.out.2.2.2.2.1 (bl HB1.out hHeld.1)).mono ?_); rintro e w37 ⟨rfl, hb37⟩; rw [HA.out.2.2.2.2.1])
  refine hK.out _ _ ?ss69 (fun hHeld2 => ?rr69)
  case ss69 => (try dsimp only); exact HS.out _ (bl hHeld.1 hb37)
  clear hK K
  clear hHeld
  have hHeld := hHeld2
  clear hHeld2
  try simp only [Act.put, rg1, rg2, rg3]
  refine rgt 28 34 rfl rfl hHeld ?_
  try simp only [Act.put, rg1, rg2, rg3]
  refine rgt 29 35 rfl rfl hHeld ?_
  try simp only [Act.put, rg1, rg2, rg3]
  refine rgc 33 (some 39) rfl (fun K hK => ?_)
  go_simp
  ((refine (hn.out _ _ HIN.out.2.2.2.2.2 (bl HB1.out hHeld.1)).mono ?_); rintro e w43 ⟨rfl, hb43⟩; rw [HA.out.2.2.2.2.2])
  refine hK.out _ _ ?ss72 (fun hHeld2 => ?rr72)
  case ss72 => (try dsimp only); exact HS.out _ (bl hHeld.1 hb43)
  clear hK K
  clear hHeld
  have hHeld := hHeld2
  clear hHeld2
  try simp only [Act.put, rg1, rg2, rg3]
  refine rgt 34 40 rfl rfl hHeld ?_
  try simp only [Act.put, rg1, rg2, rg3]
  refine rgt 35 2 rfl rfl hHeld ?_
  try simp only [Act.put, rg1, rg2, rg3]
  refine wpAnyH_done (by kernel_rfl) ?_ _
  go_wp2_with fail
  go_ret
  exact ⟨rfl, bl HB1.out hHeld.1⟩
end Go.Proofs.YtobplngonkdbpaaGreatDoor.D
