/- Parts of this claim: AoB. -/
import Derived.Test.YtobplngonkdbpaaGreatDoorP31
import Derived.Test.YtobplngonkdbpaaGreatDoorP05
import Derived.Test.YtobplngonkdbpaaGreatDoorP29
set_option linter.unusedVariables false
set_option linter.unusedSimpArgs false
/- AoB -/
namespace Go.Proofs.YtobplngonkdbpaaGreatDoor.D
open Go.RowKit
open Go.Proofs.YtobplngonkdbpaaGreatDoor.B
set_option linter.unusedVariables false
set_option linter.unusedSimpArgs false
/-- What comes behind the head of a cast's line; ahead of a function's end. -/
def nodesL (l : List Nd) : Bs := l.flatMap fun c => 32 :: ndW c
def envL (l : List Bs) : Bs := l.flatMap fun s => quoteL s ++ [32]
theorem nodesL_snoc (l : List Nd) (c : Nd) : nodesL (l ++ [c]) = nodesL l ++ 32 :: ndW c := by simp [nodesL]
theorem envL_snoc (l : List Bs) (s : Bs) : envL (l ++ [s]) = envL l ++ (quoteL s ++ [32]) := by simp [envL]
theorem env_len {T : Nat} : ∀ l : List Bs, (∀ s ∈ l, s.length <= T) -> (envL l).length <= (4 * T + 3) * l.length
 | [], _ => by simp [envL]
 | s :: l, h => by
  have h1 := env_len l fun x hx => h x (by simp [hx])
  have h2 := quote_len s
  have h3 := h s (by simp)
  rw [show envL (s :: l) = (quoteL s ++ [32]) ++ envL l from rfl, List.length_append, List.length_append]; simp only [List.length_cons, List.length_nil, Nat.mul_succ]; omega
theorem join_cons {c : UInt8} {w : Bs} {r : List Bs} (h : r ≠ []) : joinC c (w :: r) = w ++ c :: joinC c r := by
 cases r with
 | nil => exact absurd rfl h
 | cons v r => rfl
theorem join_nodes (w : Bs) : ∀ l : List Nd, joinC 32 (w :: l.map ndW) = w ++ nodesL l
 | [] => by simp [joinC, nodesL]
 | c :: l => by
  rw [List.map_cons, joinC_two, join_nodes (ndW c) l]; simp [nodesL]
theorem cast_line (f t : Bs) (l : List Nd) : itemL (.cast f t l) = (kCast ++ 32 :: (quoteL f ++ (32 :: quoteL t))) ++ nodesL l := by
 unfold itemL itemWs
 rw [joinC_two, joinC_two, join_nodes]; simp
theorem join_env (t : List Bs) (ht : t ≠ []) : ∀ l : List Bs, joinC 32 (l.map quoteL ++ t) = envL l ++ joinC 32 t
 | [] => by simp [envL]
 | s :: l => by
  rw [List.map_cons, List.cons_append, join_cons (by simp [ht]), join_env t ht l]; simp [envL]
theorem fn_line (e : List Bs) (p q : Bs) : itemL (.fn e p q) = ((kFn ++ [32]) ++ envL e) ++ ([58, 32] ++ (quoteL p ++ (32 :: quoteL q))) := by
 unfold itemL itemWs
 rw [join_cons (by simp), join_env _ (by simp)]; simp [joinC]
theorem ins_line (op a b : Int) : itemL (.ins op a b) = 32 :: (opW op ++ (32 :: (Lib.itoa a ++ (32 :: Lib.itoa b)))) := by
 unfold itemL itemWs
 simp [joinC]
set_option maxRecDepth 100000 in
set_option maxHeartbeats 4000000 in
theorem castLine_any (f t : Bs) (l : List Nd) (A : Option Addr) (n cp : Nat) (w : World) (hn : l.length = n) (hlf : f.length <= 1073741824) (hlt : t.length <= 1073741824) (hnb : n <= 1073741824) (hcp : n <= cp) (hok : ∀ c ∈ l, c.ok)
  (hA : Sl w w.heap.size 7 A n (cosC l)) (hg : Gl w) :
  Calls Tryz.prog 40 #[.agg #[.string ⟨f.toArray⟩, .string ⟨t.toArray⟩, .slice A n cp]] w fun e w' => e = .returned (strV (itemL (.cast f t l))) /\ Below w.heap.size w w' := by
 rw [cast_line]
 have HG := Lib.hid (fun W (hb : Below w.heap.size w W) => hg.on hb)
 have HQf := Lib.hid (fun W => quoted_any f W hlf)
 have HQt := Lib.hid (fun W => quoted_any t W hlt)
 have qf := quote_len f
 have qt := quote_len t
 obtain ⟨x1, hx1⟩ : ∃ x, quoteL f = x := ⟨_, rfl⟩
 obtain ⟨x2_, hx2⟩ : ∃ x, quoteL t = x := ⟨_, rfl⟩
 rw [hx1] at qf HQf ⊢; rw [hx2] at qt HQt ⊢
 obtain ⟨y1, hy1⟩ : ∃ y, [99, 97, 115, 116, 32] ++ x1 = y := ⟨_, rfl⟩
 obtain ⟨y2, hy2⟩ : ∃ y, y1 ++ [32] = y := ⟨_, rfl⟩
 obtain ⟨y3, hy3⟩ : ∃ y, y2 ++ x2_ = y := ⟨_, rfl⟩
 have l1 : y1.length = 5 + x1.length := by rw [<- hy1, List.length_append]; rfl
 have l2 : y2.length = y1.length + 1 := by rw [<- hy2, List.length_append]; rfl
 have l3 : y3.length = y2.length + x2_.length := by rw [<- hy3, List.length_append]
 have s1 := fun W => str_add (P := Tryz.prog) hy1 (by show 5 + x1.length <= _; omega) W
 have s2 := fun W => str_add (P := Tryz.prog) hy2 (by show y1.length + 1 <= _; omega) W
 have s3 := fun W => str_add (P := Tryz.prog) hy3 (by omega) W
 have HH := Lib.hid (show kCast ++ 32 :: (x1 ++ (32 :: x2_)) = y3 by rw [<- hy3, <- hy2, <- hy1]; simp [kCast])
 have hl3 : y3.length <= 9000000000 := by omega
 clear hx1 hx2 hy1 hy2 hy3 l1 l2 l3 hlf hlt qf qt hg
 unfold strV at HQf HQt ⊢
 have HOK := Lib.hid hok
 have HN := Lib.hid hn
 have HS := Lib.hid (fun W (hb : Below w.heap.size w W) => (hA.below hb).more hb.size)
 clear hok hn hA
 go_enter Tryz.func40, Tryz.ntmps40
 go_upto_region 1 with fail
 obtain ⟨b, hb⟩ : ∃ b, w.heap.size = b := ⟨_, rfl⟩
 obtain ⟨W1, hW1⟩ : ∃ W1, w.alloc (.cells #[.string ⟨f.toArray⟩, .string ⟨t.toArray⟩, .slice A n cp] 84) = W1 := ⟨_, rfl⟩
 have hb1 : Below w.heap.size w W1 := by rw [<- hW1]; exact bal (Below.refl _ _) _
 have hbk : Blk W1 b 84 #[.string ⟨f.toArray⟩, .string ⟨t.toArray⟩, .slice A n cp] := by rw [<- hW1, <- hb]; exact Blk.new _ _ _
 rw [hW1, hb]
 have HX := Lib.hid (show ∀ W, Below W1.heap.size W1 W -> Below W1.heap.size W1 W /\ W.cell? ⟨b, 0, none⟩ = some (.string ⟨f.toArray⟩) /\ W.cell? ⟨b, 1, none⟩ = some (.string ⟨t.toArray⟩) /\ W.cell? ⟨b, 2, none⟩ = some (.slice A n cp) from fun W hw => by
  have k := hbk.below hw hbk.lt
  exact ⟨hw, (k.cell 0).trans rfl, (k.cell 1).trans rfl, (k.cell 2).trans rfl⟩)
 have HB1 := Lib.hid hb1
 clear hb1 hbk hW1 hb
 refine wp_region_held_drew (S := (fun W => Below W1.heap.size W1 W /\ W.cell? ⟨b, 0, none⟩ = some (.string ⟨f.toArray⟩) /\ W.cell? ⟨b, 1, none⟩ = some (.string ⟨t.toArray⟩) /\ W.cell? ⟨b, 2, none⟩ = some (.slice A n cp))) (by kernel_rfl) ?ss1 (fun hHeld => ?rr1)
 case ss1 => (try dsimp only); exact HX.out _ (Below.refl _ _).drew
 refine rgt 0 5 rfl rfl hHeld ?_
 try simp only [Act.put, rg1, rg2, rg3]
 refine rgt 1 6 rfl rfl hHeld ?_
 try simp only [Act.put, rg1, rg2, rg3]
 refine rgt 5 10 rfl rfl hHeld ?_
 try simp only [Act.put, rg1, rg2, rg3]
 refine rgt 6 11 rfl rfl hHeld ?_
 try simp only [Act.put, rg1, rg2, rg3]
 refine rgc 2 (some 7) rfl (fun K hK => ?_)
 go_simp
 ((refine (HQf.out _).mono ?_); rintro e w2 ⟨rfl, hb2⟩)
 refine hK.out _ _ ?ss6 (fun hHeld2 => ?rr6)
 case ss6 => (try dsimp only); exact HX.out _ (bl hHeld.1 hb2)
 clear hK K
 clear hHeld
 have hHeld := hHeld2
 clear hHeld2
 try simp only [Act.put, rg1, rg2, rg3]
 refine rgt 3 8 rfl rfl hHeld ?_
 try simp only [Act.put, rg1, rg2, rg3]
 refine rgt 4 9 rfl rfl hHeld ?_
 try simp only [Act.put, rg1, rg2, rg3]
 refine rgc 7 (some 12) rfl (fun K hK => ?_)
 go_simp
 ((refine (HQt.out _).mono ?_); rintro e w3 ⟨rfl, hb3⟩)
 refine hK.out _ _ ?ss9 (fun hHeld2 => ?rr9)
 case ss9 => (try dsimp only); exact HX.out _ (bl hHeld.1 hb3)
 clear hK K
 clear hHeld
 have hHeld := hHeld2
 clear hHeld2
 try simp only [Act.put, rg1, rg2, rg3]
 refine rgt 8 13 rfl rfl hHeld ?_
 try simp only [Act.put, rg1, rg2, rg3]
 refine rgt 9 3 rfl rfl hHeld ?_
 try simp only [Act.put, rg1, rg2, rg3]
 refine wpAnyH_done (by kernel_rfl) ?_ _
 have HW3 := Lib.hid hHeld.1
 clear hHeld hb2 hb3 s1 s2 s3
 go_wp2_with fail
 go_loopg [3, 4] n (fun g u i wr => ∃ (k : Nat) (z : Bs), k <= n /\ g = n - k /\ i = .int .i64 k /\ u = .string ⟨z.toArray⟩ /\ z.length <= 9000000000 + 161 * k /\ Hid (z = y3 ++ nodesL (l.take k) /\ Below W1.heap.size W1 wr))
 case atStart => exact ⟨0, y3, by omega, rfl, rfl, rfl, by omega, Lib.hid ⟨by simp [nodesL], HW3.out⟩⟩
 case round =>
  obtain ⟨k, z, hk, rfl, rfl, rfl, hzl, HP⟩ := hrel
  have x2 := (HX.out wr HP.out.2).2.2.2
  by_cases hlt : k < n
  ·
   obtain ⟨c, hc⟩ : ∃ c, l[k]? = some c := ⟨_, List.getElem?_eq_getElem (by rw [HN.out]; exact hlt)⟩
   obtain ⟨bc, oc, rfl, hbc, hcc⟩ := (HS.out wr (bl HB1.out HP.out.2)).at_ (by omega)
   have hcok := HOK.out c (List.mem_of_getElem? hc)
   have kc : ∀ j v, (ndC c)[j]? = some v -> j < 7 -> wr.cell? ⟨bc, oc + k * 7 + j, none⟩ = some v := fun j v hv hj => by
    rw [Nat.add_assoc]; exact hcc _ _ (by rw [show cosC l = l.flatMap ndC from rfl, flat_at ndC 7 (fun _ => rfl) _ _ _ _ hc hj]; exact hv)
   have d0 : wr.cell? ⟨bc, oc + k * 7, none⟩ = some (.int .i8 c.op) := kc 0 _ rfl (by decide)
   have d1 : wr.cell? ⟨bc, oc + k * 7 + 1, none⟩ = some (.int .i64 c.proj) := kc 1 _ rfl (by decide)
   have d2 : wr.cell? ⟨bc, oc + k * 7 + 2, none⟩ = some (.bool c.inj) := kc 2 _ rfl (by decide)
   have d3 : wr.cell? ⟨bc, oc + k * 7 + 3, none⟩ = some (.int .u8 c.head) := kc 3 _ rfl (by decide)
   have d4 : wr.cell? ⟨bc, oc + k * 7 + 4, none⟩ = some (.int .i64 c.lab) := kc 4 _ rfl (by decide)
   have d5 : wr.cell? ⟨bc, oc + k * 7 + 5, none⟩ = some (.int .u8 c.from_) := kc 5 _ rfl (by decide)
   have d6 : wr.cell? ⟨bc, oc + k * 7 + 6, none⟩ = some (.int .u8 c.to_) := kc 6 _ rfl (by decide)
   have HT := coText_any c wr hcok (HG.out wr (bl HB1.out HP.out.2))
   have hnl := nd_len c hcok
   obtain ⟨v, hv⟩ : ∃ v, ndW c = v := ⟨_, rfl⟩
   have HCT := Lib.hid (show Calls Tryz.prog 97 #[.agg #[.int .i8 c.op, .int .i64 c.proj, .bool c.inj, .int .u8 c.head, .int .i64 c.lab, .int .u8 c.from_, .int .u8 c.to_]] wr fun e w' => e = .returned (.string ⟨v.toArray⟩) /\ Below wr.heap.size wr w' by rw [<- hv]; exact HT)
   rw [hv] at hnl
   obtain ⟨z1, hz1⟩ : ∃ y, z ++ [32] = y := ⟨_, rfl⟩
   obtain ⟨z2, hz2⟩ : ∃ y, z1 ++ v = y := ⟨_, rfl⟩
   have m1 : z1.length = z.length + 1 := by rw [<- hz1, List.length_append]; rfl
   have m2 : z2.length = z1.length + v.length := by rw [<- hz2, List.length_append]
   have t1 := fun W => str_add (P := Tryz.prog) hz1 (by show z.length + 1 <= _; omega) W
   have t2 := fun W => str_add (P := Tryz.prog) hz2 (by omega) W
   have HZ := Lib.hid (show z2 = y3 ++ nodesL (l.take (k + 1)) by
    rw [List.take_add_one, hc, Option.toList_some, nodesL_snoc, <- List.append_assoc, <- HP.out.1, hv, <- hz2, <- hz1]; simp)
   have hz2l : z2.length <= 9000000000 + 161 * (k + 1) := by omega
   clear hc hbc hcc kc HT hv hz1 hz2 m1 m2 hcok
   go_wp2_with fail
   (refine HCT.out.mono ?_); rintro e w4 ⟨rfl, hb4⟩
   have HB4 := Lib.hid (bl HP.out.2 hb4)
   clear hb4
   go_wp2_with fail
   go_roundg (n - (k + 1))
   case measure => omega
   case rel => exact ⟨k + 1, z2, by omega, rfl, by go_num, rfl, hz2l, Lib.hid ⟨HZ.out, HB4.out⟩⟩
  ·
   obtain rfl : k = n := by omega
   have HZ := Lib.hid (show z = (kCast ++ 32 :: (x1 ++ (32 :: x2_))) ++ nodesL l by rw [HP.out.1, HH.out, List.take_of_length_le (by rw [HN.out]; exact Nat.le_refl _)])
   go_wp2_with fail
   go_ret
   exact ⟨by rw [<- HZ.out]; rfl, bl HB1.out HP.out.2⟩
set_option maxRecDepth 100000 in
set_option maxHeartbeats 4000000 in
theorem headLine_any (l : List Bs) (p q : Bs) (cv : Value) (hcv : ∃ A n c, cv = .slice A n c) (A : Option Addr) (n cp : Nat) (w : World) (hn : l.length = n) (hlp : p.length <= 1073741824) (hlq : q.length <= 1073741824) (hll : ∀ s ∈ l, s.length <= 1073741824) (hnb : n <= 1048576) (hcp : n <= cp)
  (hA : Sl w w.heap.size 1 A n (envC l)) :
  Calls Tryz.prog 41 #[.agg #[.slice A n cp, .string ⟨p.toArray⟩, .string ⟨q.toArray⟩, cv]] w fun e w' => e = .returned (strV (itemL (.fn l p q))) /\ Below w.heap.size w w' := by
 obtain ⟨Av, nv, cvv, rfl⟩ := hcv
 obtain ⟨T, hT⟩ : ∃ T, itemL (.fn l p q) = T := ⟨_, rfl⟩
 rw [hT]
 rw [fn_line] at hT
 have HQp := Lib.hid (fun W => quoted_any p W hlp)
 have HQq := Lib.hid (fun W => quoted_any q W hlq)
 have qp := quote_len p
 have qq := quote_len q
 obtain ⟨v1, hv1⟩ : ∃ x, quoteL p = x := ⟨_, rfl⟩
 obtain ⟨v2, hv2⟩ : ∃ x, quoteL q = x := ⟨_, rfl⟩
 rw [hv1] at qp HQp hT; rw [hv2] at qq HQq hT
 have HT := Lib.hid hT
 clear hv1 hv2 hT
 have hel := env_len (T := 1073741824) l hll
 have HLL := Lib.hid (fun s (h : s ∈ l) => hll s h)
 have HN := Lib.hid hn
 have HS := Lib.hid (fun W (hb : Below w.heap.size w W) => (hA.below hb).more hb.size)
 clear hA hll hn hel
 unfold strV at HQp HQq ⊢
 obtain ⟨b, hb⟩ : ∃ b, w.heap.size = b := ⟨_, rfl⟩
 obtain ⟨W1, hW1⟩ : ∃ W1, w.alloc (.cells #[.slice A n cp, .string ⟨p.toArray⟩, .string ⟨q.toArray⟩, .slice Av nv cvv] 90) = W1 := ⟨_, rfl⟩
 have hb1 : Below w.heap.size w W1 := by rw [<- hW1]; exact bal (Below.refl _ _) _
 have hbk : Blk W1 b 90 #[.slice A n cp, .string ⟨p.toArray⟩, .string ⟨q.toArray⟩, .slice Av nv cvv] := by rw [<- hW1, <- hb]; exact Blk.new _ _ _
 have HX := Lib.hid (show ∀ W, Below W1.heap.size W1 W -> Below W1.heap.size W1 W /\ W.cell? ⟨b, 0, none⟩ = some (.slice A n cp) /\ W.cell? ⟨b, 1, none⟩ = some (.string ⟨p.toArray⟩) /\ W.cell? ⟨b, 2, none⟩ = some (.string ⟨q.toArray⟩) from fun W hw => by
  have k := hbk.below hw hbk.lt
  exact ⟨hw, (k.cell 0).trans rfl, (k.cell 1).trans rfl, (k.cell 2).trans rfl⟩)
 have HB1 := Lib.hid hb1
 clear hb1 hbk
 go_enter Tryz.func41, Tryz.ntmps41
 go_upto_region 1 with fail
 clear hW1 hb
 go_wp2_with fail
 go_loopg [3, 4] n (fun g u i wr => ∃ (k : Nat) (z : Bs), k <= n /\ g = n - k /\ i = .int .i64 k /\ u = .string ⟨z.toArray⟩ /\ z.length <= 3 + 4294967299 * k /\ Hid (z = (kFn ++ [32]) ++ envL (l.take k) /\ Below W1.heap.size W1 wr))
 case atStart => exact ⟨0, [102, 110, 32], by omega, rfl, rfl, rfl, by show 3 <= _; omega, Lib.hid ⟨by simp [envL, kFn], Below.refl _ _⟩⟩
 case round =>
  obtain ⟨k, z, hk, rfl, rfl, rfl, hzl, HP⟩ := hrel
  have x0 := (HX.out wr HP.out.2).2.1
  by_cases hlt : k < n
  ·
   obtain ⟨s, hs⟩ : ∃ s, l[k]? = some s := ⟨_, List.getElem?_eq_getElem (by rw [HN.out]; exact hlt)⟩
   obtain ⟨bc, oc, rfl, hbc, hcc⟩ := (HS.out wr (bl HB1.out HP.out.2)).at_ (by omega)
   have d0 : wr.cell? ⟨bc, oc + k, none⟩ = some (.string ⟨s.toArray⟩) := hcc k _ (by simp [envC, hs, strV])
   have hsl := HLL.out s (List.mem_of_getElem? hs)
   have HTq := quoted_any s wr hsl
   have hql := quote_len s
   obtain ⟨v, hv⟩ : ∃ v, quoteL s = v := ⟨_, rfl⟩
   rw [hv] at HTq hql
   have HCT := Lib.hid HTq
   unfold strV at HCT
   obtain ⟨z1, hz1⟩ : ∃ y, z ++ v = y := ⟨_, rfl⟩
   obtain ⟨z2, hz2⟩ : ∃ y, z1 ++ [32] = y := ⟨_, rfl⟩
   have m1 : z1.length = z.length + v.length := by rw [<- hz1, List.length_append]
   have m2 : z2.length = z1.length + 1 := by rw [<- hz2, List.length_append]; rfl
   have t1 := fun W => str_add (P := Tryz.prog) hz1 (by omega) W
   have t2 := fun W => str_add (P := Tryz.prog) hz2 (by show z1.length + 1 <= _; omega) W
   have HZ := Lib.hid (show z2 = (kFn ++ [32]) ++ envL (l.take (k + 1)) by
    rw [List.take_add_one, hs, Option.toList_some, envL_snoc, <- List.append_assoc, <- HP.out.1, hv, <- hz2, <- hz1]; simp)
   have hz2l : z2.length <= 3 + 4294967299 * (k + 1) := by omega
   clear hs hbc hcc HTq hv hz1 hz2 m1 m2 hsl
   go_wp2_with fail
   (refine HCT.out.mono ?_); rintro e w4 ⟨rfl, hb4⟩
   have HB4 := Lib.hid (bl HP.out.2 hb4)
   clear hb4
   go_wp2_with fail
   go_roundg (n - (k + 1))
   case measure => omega
   case rel => exact ⟨k + 1, z2, by omega, rfl, by go_num, rfl, hz2l, Lib.hid ⟨HZ.out, HB4.out⟩⟩
  ·
   obtain rfl : k = n := by omega
   have HZ := Lib.hid (show z = (kFn ++ [32]) ++ envL l by rw [HP.out.1, List.take_of_length_le (by rw [HN.out]; exact Nat.le_refl _)])
   obtain ⟨z1, hz1⟩ : ∃ y, z ++ [58, 32] = y := ⟨_, rfl⟩
   obtain ⟨z2, hz2⟩ : ∃ y, z1 ++ v1 = y := ⟨_, rfl⟩
   obtain ⟨z3, hz3⟩ : ∃ y, z2 ++ [32] = y := ⟨_, rfl⟩
   obtain ⟨z4, hz4⟩ : ∃ y, z3 ++ v2 = y := ⟨_, rfl⟩
   have m1 : z1.length = z.length + 2 := by rw [<- hz1, List.length_append]; rfl
   have m2 : z2.length = z1.length + v1.length := by rw [<- hz2, List.length_append]
   have m3 : z3.length = z2.length + 1 := by rw [<- hz3, List.length_append]; rfl
   have m4 : z4.length = z3.length + v2.length := by rw [<- hz4, List.length_append]
   have t1 := fun W => str_add (P := Tryz.prog) hz1 (by show z.length + 2 <= _; omega) W
   have t2 := fun W => str_add (P := Tryz.prog) hz2 (by omega) W
   have t3 := fun W => str_add (P := Tryz.prog) hz3 (by show z2.length + 1 <= _; omega) W
   have t4 := fun W => str_add (P := Tryz.prog) hz4 (by omega) W
   have HR := Lib.hid (show T = z4 by rw [<- HT.out, <- HZ.out, <- hz4, <- hz3, <- hz2, <- hz1]; simp)
   have HB2 := Lib.hid HP.out.2
   clear hz1 hz2 hz3 hz4 m1 m2 m3 m4
   go_upto_region 6 with fail
   refine wp_region_held_drew (S := (fun W => Below W1.heap.size W1 W /\ W.cell? ⟨b, 0, none⟩ = some (.slice A k cp) /\ W.cell? ⟨b, 1, none⟩ = some (.string ⟨p.toArray⟩) /\ W.cell? ⟨b, 2, none⟩ = some (.string ⟨q.toArray⟩))) (by kernel_rfl) ?ss12 (fun hHeld => ?rr12)
   case ss12 => (try dsimp only); exact HX.out _ (bdr HB2.out 1)
   refine rgt 0 21 rfl rfl hHeld ?_
   try simp only [Act.put, rg1, rg2, rg3]
   refine rgt 1 22 rfl rfl hHeld ?_
   try simp only [Act.put, rg1, rg2, rg3]
   refine rgt 2 23 rfl rfl hHeld ?_
   try simp only [Act.put, rg1, rg2, rg3]
   refine rgt 3 24 rfl rfl hHeld ?_
   try simp only [Act.put, rg1, rg2, rg3]
   refine rgt 7 28 rfl rfl hHeld ?_
   try simp only [Act.put, rg1, rg2, rg3]
   refine rgt 8 29 rfl rfl hHeld ?_
   try simp only [Act.put, rg1, rg2, rg3]
   refine rgc 4 (some 25) rfl (fun K hK => ?_)
   go_simp
   ((refine (HQp.out _).mono ?_); rintro e w2 ⟨rfl, hb2⟩)
   refine hK.out _ _ ?ss19 (fun hHeld2 => ?rr19)
   case ss19 => (try dsimp only); exact HX.out _ (bl hHeld.1 hb2)
   clear hK K
   clear hHeld
   have hHeld := hHeld2
   clear hHeld2
   try simp only [Act.put, rg1, rg2, rg3]
   refine rgt 5 26 rfl rfl hHeld ?_
   try simp only [Act.put, rg1, rg2, rg3]
   refine rgt 6 27 rfl rfl hHeld ?_
   try simp only [Act.put, rg1, rg2, rg3]
   refine rgc 9 (some 30) rfl (fun K hK => ?_)
   go_simp
   ((refine (HQq.out _).mono ?_); rintro e w3 ⟨rfl, hb3⟩)
   refine hK.out _ _ ?ss22 (fun hHeld2 => ?rr22)
   case ss22 => (try dsimp only); exact HX.out _ (bl hHeld.1 hb3)
   clear hK K
   clear hHeld
   have hHeld := hHeld2
   clear hHeld2
   try simp only [Act.put, rg1, rg2, rg3]
   refine rgt 10 31 rfl rfl hHeld ?_
   try simp only [Act.put, rg1, rg2, rg3]
   refine rgt 11 2 rfl rfl hHeld ?_
   try simp only [Act.put, rg1, rg2, rg3]
   refine wpAnyH_done (by kernel_rfl) ?_ _
   go_wp2_with fail
   go_ret
   exact ⟨by rw [HR.out]; rfl, bl HB1.out hHeld.1⟩
set_option maxRecDepth 100000 in
set_option maxHeartbeats 4000000 in
theorem insLine_any (i : In) (w : World) (h : i.ok) (hg : Gl w) :
  Calls Tryz.prog 42 #[.agg #[.int .i8 i.op, .int .i64 i.a, .int .i64 i.b]] w fun e w' => e = .returned (strV (itemL (.ins i.op i.a i.b))) /\ Below w.heap.size w w' := by
 obtain ⟨h1, h2, h3, h4⟩ := h
 obtain ⟨T, hT⟩ : ∃ T, itemL (.ins i.op i.a i.b) = T := ⟨_, rfl⟩
 rw [hT]
 rw [ins_line] at hT
 have HG := Lib.hid (fun W (hb : Below w.heap.size w W) => hg.on hb)
 have ho := small_inR h1 (by omega)
 have wo : IntKind.i64.wrap i.op = i.op := IntWalk.i64_in _ ho
 have n1 := itoa_len h3; have n2 := itoa_len h4; have n0 := itoa_len ho
 have hol := op_len i.op h1 h2
 have HNa := Lib.hid (fun W hb => numT_any i.a W h3 (HG.out W hb))
 have HNb := Lib.hid (fun W hb => numT_any i.b W h4 (HG.out W hb))
 have HNo := Lib.hid (fun W hb => numT_any i.op W ho (HG.out W hb))
 have HNM := Lib.hid (nameA_any i.op w h1 h2)
 clear hg ho
 unfold strV at HNa HNb HNo HNM ⊢
 obtain ⟨b, hb⟩ : ∃ b, w.heap.size = b := ⟨_, rfl⟩
 obtain ⟨W1, hW1⟩ : ∃ W1, w.alloc (.cells #[.int .i8 i.op, .int .i64 i.a, .int .i64 i.b] 92) = W1 := ⟨_, rfl⟩
 have hb1 : Below w.heap.size w W1 := by rw [<- hW1]; exact bal (Below.refl _ _) _
 have hbk : Blk W1 b 92 #[.int .i8 i.op, .int .i64 i.a, .int .i64 i.b] := by rw [<- hW1, <- hb]; exact Blk.new _ _ _
 have HX := Lib.hid (show ∀ W, Below W1.heap.size W1 W -> Below W1.heap.size W1 W /\ W.cell? ⟨b, 0, none⟩ = some (.int .i8 i.op) /\ W.cell? ⟨b, 1, none⟩ = some (.int .i64 i.a) /\ W.cell? ⟨b, 2, none⟩ = some (.int .i64 i.b) from fun W hw => by
  have k := hbk.below hw hbk.lt
  exact ⟨hw, (k.cell 0).trans rfl, (k.cell 1).trans rfl, (k.cell 2).trans rfl⟩)
 have HB1 := Lib.hid hb1
 have HNM1 := Lib.hid (nameA_any i.op W1 h1 h2)
 unfold strV at HNM1
 clear hb1 hbk HNM
 obtain ⟨u, hu⟩ : ∃ u, opW i.op = u := ⟨_, rfl⟩
 obtain ⟨va, hva⟩ : ∃ x, Lib.itoa i.a = x := ⟨_, rfl⟩
 obtain ⟨vb, hvb⟩ : ∃ x, Lib.itoa i.b = x := ⟨_, rfl⟩
 rw [hu] at hol hT
 rw [hva] at n1 HNa hT
 rw [hvb] at n2 HNb hT
 obtain ⟨z1, hz1⟩ : ∃ y, ([32] : Bs) ++ u = y := ⟨_, rfl⟩
 obtain ⟨z2, hz2⟩ : ∃ y, z1 ++ [32] = y := ⟨_, rfl⟩
 obtain ⟨z3, hz3⟩ : ∃ y, z2 ++ va = y := ⟨_, rfl⟩
 obtain ⟨z4, hz4⟩ : ∃ y, z3 ++ [32] = y := ⟨_, rfl⟩
 obtain ⟨z5, hz5⟩ : ∃ y, z4 ++ vb = y := ⟨_, rfl⟩
 have m1 : z1.length = 1 + u.length := by rw [<- hz1, List.length_append]; rfl
 have m2 : z2.length = z1.length + 1 := by rw [<- hz2, List.length_append]; rfl
 have m3 : z3.length = z2.length + va.length := by rw [<- hz3, List.length_append]
 have m4 : z4.length = z3.length + 1 := by rw [<- hz4, List.length_append]; rfl
 have t1 := fun W => str_add (P := Tryz.prog) hz1 (by show 1 + u.length <= _; omega) W
 have t2 := fun W => str_add (P := Tryz.prog) hz2 (by show z1.length + 1 <= _; omega) W
 have t3 := fun W => str_add (P := Tryz.prog) hz3 (by omega) W
 have t4 := fun W => str_add (P := Tryz.prog) hz4 (by show z3.length + 1 <= _; omega) W
 have t5 := fun W => str_add (P := Tryz.prog) hz5 (by omega) W
 have HR := Lib.hid (show T = z5 by rw [<- hT, <- hz5, <- hz4, <- hz3, <- hz2, <- hz1]; simp)
 clear hT hva hvb hz1 hz2 hz3 hz4 hz5 m1 m2 m3 m4
 obtain ⟨nm, hnm⟩ : ∃ x, nameV i.op = x := ⟨_, rfl⟩
 rw [hnm] at HNM1
 have hx0 := (HX.out W1 (Below.refl _ _)).2.1
 go_enter Tryz.func42, Tryz.ntmps42
 go_upto_region 1 with fail
 clear hW1 hb
 go_wp2_with fail
 (refine HNM1.out.mono ?_); rintro e w2 ⟨rfl, hb2⟩
 have HB2 := Lib.hid hb2
 have hx2 := (HX.out w2 hb2).2.1
 clear hb2 HNM1
 by_cases hne : nm = []
 ·
  have hu2 : ([35] : Bs) ++ Lib.itoa i.op = u := by rw [<- hu, opW, hnm, if_pos hne]; rfl
  have t0 := fun W => str_add (P := Tryz.prog) hu2 (by show 1 + (Lib.itoa i.op).length <= _; omega) W
  subst hne
  clear hu hnm hu2
  go_wp2_with fail
  (refine (HNo.out w2 (bl HB1.out HB2.out)).mono ?_); rintro e w3 ⟨rfl, hb3⟩
  have HB3 := Lib.hid (bl HB2.out hb3)
  clear hb3
  go_upto_region 4 with fail
  refine wp_region_held_drew (S := (fun W => Below W1.heap.size W1 W /\ W.cell? ⟨b, 0, none⟩ = some (.int .i8 i.op) /\ W.cell? ⟨b, 1, none⟩ = some (.int .i64 i.a) /\ W.cell? ⟨b, 2, none⟩ = some (.int .i64 i.b))) (by kernel_rfl) ?ss25 (fun hHeld => ?rr25)
  case ss25 => (try dsimp only); exact HX.out _ (bdr HB3.out 1)
  refine rgt 0 14 rfl rfl hHeld ?_
  try simp only [Act.put, rg1, rg2, rg3]
  refine rgt 1 15 rfl rfl hHeld ?_
  try simp only [Act.put, rg1, rg2, rg3]
  refine rgt 2 16 rfl rfl hHeld ?_
  try simp only [Act.put, rg1, rg2, rg3]
  refine rgt 3 17 rfl rfl hHeld ?_
  try simp only [Act.put, rg1, rg2, rg3]
  refine rgt 4 18 rfl rfl hHeld ?_
  try simp only [Act.put, rg1, rg2, rg3]
  refine rgt 8 22 rfl rfl hHeld ?_
  try simp only [Act.put, rg1, rg2, rg3]
  refine rgt 9 23 rfl rfl hHeld ?_
  try simp only [Act.put, rg1, rg2, rg3]
  refine rgc 5 (some 19) rfl (fun K hK => ?_)
  go_simp
  ((refine (HNa.out _ (bl HB1.out hHeld.1)).mono ?_); rintro e w4 ⟨rfl, hb4⟩)
  refine hK.out _ _ ?ss33 (fun hHeld2 => ?rr33)
  case ss33 => (try dsimp only); exact HX.out _ (bl hHeld.1 hb4)
  clear hK K
  clear hHeld
  have hHeld := hHeld2
  clear hHeld2
  try simp only [Act.put, rg1, rg2, rg3]
  refine rgt 6 20 rfl rfl hHeld ?_
  try simp only [Act.put, rg1, rg2, rg3]
  refine rgt 7 21 rfl rfl hHeld ?_
  try simp only [Act.put, rg1, rg2, rg3]
  refine rgc 10 (some 24) rfl (fun K hK => ?_)
  go_simp
  ((refine (HNb.out _ (bl HB1.out hHeld.1)).mono ?_); rintro e w5 ⟨rfl, hb5⟩)
  refine hK.out _ _ ?ss36 (fun hHeld2 => ?rr36)
  case ss36 => (try dsimp only); exact HX.out _ (bl hHeld.1 hb5)
  clear hK K
  clear hHeld
  have hHeld := hHeld2
  clear hHeld2
  try simp only [Act.put, rg1, rg2, rg3]
  refine rgt 11 25 rfl rfl hHeld ?_
  try simp only [Act.put, rg1, rg2, rg3]
  refine rgt 12 2 rfl rfl hHeld ?_
  try simp only [Act.put, rg1, rg2, rg3]
  refine wpAnyH_done (by kernel_rfl) ?_ _
  go_wp2_with fail
  go_ret
  exact ⟨by rw [HR.out]; rfl, bl HB1.out hHeld.1⟩
 ·
  have hu2 : nm = u := by rw [<- hu, opW, hnm, if_neg hne]
  subst hu2
  have e1 : (nm == []) = false := by simpa using hne
  have HB3 := Lib.hid HB2.out
  clear hu hnm hne
  go_upto_region 4 with fail
  refine wp_region_held_drew (S := (fun W => Below W1.heap.size W1 W /\ W.cell? ⟨b, 0, none⟩ = some (.int .i8 i.op) /\ W.cell? ⟨b, 1, none⟩ = some (.int .i64 i.a) /\ W.cell? ⟨b, 2, none⟩ = some (.int .i64 i.b))) (by kernel_rfl) ?ss39 (fun hHeld => ?rr39)
  case ss39 => (try dsimp only); exact HX.out _ (bdr HB3.out 1)
  refine rgt 0 14 rfl rfl hHeld ?_
  try simp only [Act.put, rg1, rg2, rg3]
  refine rgt 1 15 rfl rfl hHeld ?_
  try simp only [Act.put, rg1, rg2, rg3]
  refine rgt 2 16 rfl rfl hHeld ?_
  try simp only [Act.put, rg1, rg2, rg3]
  refine rgt 3 17 rfl rfl hHeld ?_
  try simp only [Act.put, rg1, rg2, rg3]
  refine rgt 4 18 rfl rfl hHeld ?_
  try simp only [Act.put, rg1, rg2, rg3]
  refine rgt 8 22 rfl rfl hHeld ?_
  try simp only [Act.put, rg1, rg2, rg3]
  refine rgt 9 23 rfl rfl hHeld ?_
  try simp only [Act.put, rg1, rg2, rg3]
  refine rgc 5 (some 19) rfl (fun K hK => ?_)
  go_simp
  ((refine (HNa.out _ (bl HB1.out hHeld.1)).mono ?_); rintro e w4 ⟨rfl, hb4⟩)
  refine hK.out _ _ ?ss47 (fun hHeld2 => ?rr47)
  case ss47 => (try dsimp only); exact HX.out _ (bl hHeld.1 hb4)
  clear hK K
  clear hHeld
  have hHeld := hHeld2
  clear hHeld2
  try simp only [Act.put, rg1, rg2, rg3]
  refine rgt 6 20 rfl rfl hHeld ?_
  try simp only [Act.put, rg1, rg2, rg3]
  refine rgt 7 21 rfl rfl hHeld ?_
  try simp only [Act.put, rg1, rg2, rg3]
  refine rgc 10 (some 24) rfl (fun K hK => ?_)
  go_simp
  ((refine (HNb.out _ (bl HB1.out hHeld.1)).mono ?_); rintro e w5 ⟨rfl, hb5⟩)
  refine hK.out _ _ ?ss50 (fun hHeld2 => ?rr50)
  case ss50 => (try dsimp only); exact HX.out _ (bl hHeld.1 hb5)
  clear hK K
  clear hHeld
  have hHeld := hHeld2
  clear hHeld2
  try simp only [Act.put, rg1, rg2, rg3]
  refine rgt 11 25 rfl rfl hHeld ?_
  try simp only [Act.put, rg1, rg2, rg3]
  refine rgt 12 2 rfl rfl hHeld ?_
  try simp only [Act.put, rg1, rg2, rg3]
  refine wpAnyH_done (by kernel_rfl) ?_ _
  go_wp2_with fail
  go_ret
  exact ⟨by rw [HR.out]; rfl, bl HB1.out hHeld.1⟩
end Go.Proofs.YtobplngonkdbpaaGreatDoor.D
