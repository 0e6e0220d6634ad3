/- Parts of this claim: CeN, CeW. -/
import Derived.Deep.WholeRow
import Derived.Laws.Rows
import Derived.Test.YtobplngonkdbpaaGreatDoorP05
import Derived.Test.YtobplngonkdbpaaGreatDoorP01
set_option linter.unusedVariables false
set_option linter.unusedSimpArgs false
/- CeN -/
namespace Go.Proofs.YtobplngonkdbpaaGreatDoor.D
open Go.RowKit
open Go.Proofs.YtobplngonkdbpaaGreatDoor.B
set_option linter.unusedVariables false
set_option linter.unusedSimpArgs false
theorem num_c (n : Int) (w : World) (hn : inR n) (hg : Gl w) :
  Calls Tryz.prog 34 #[.int .i64 n] w fun e w' => e = .returned (strV (Lib.itoa n)) /\ Below w.heap.size w w' := by
 have h := num_p n w hn hg
 clear hn hg
 go_enter Tryz.func34, Tryz.ntmps34
 go_wp2_with fail
 (refine h.mono ?_); rintro ev w1 ⟨rfl, hb⟩
 go_wp2_with fail
 go_ret
 exact ⟨rfl, hb⟩
theorem join_inter (c : UInt8) : ∀ ws : List Bs, Lib.join ws [c] = joinC c ws
 | [] => rfl
 | [w] => by simp [Lib.join, joinC, List.intercalate]
 | w :: v :: r => by
  rw [joinC, <- join_inter c (v :: r)]
  simp [Lib.join, List.intercalate, List.intersperse]
/-- All bytes of some texts, and one more for each. -/
def lenS (ws : List Bs) : Nat := (ws.map fun w => w.length + 1).sum
theorem lenS_cons (w : Bs) (ws : List Bs) : lenS (w :: ws) = w.length + 1 + lenS ws := by simp [lenS]
theorem lenS_app (a b : List Bs) : lenS (a ++ b) = lenS a + lenS b := by simp [lenS]
theorem joinC_len (c : UInt8) : ∀ ws : List Bs, (joinC c ws).length <= lenS ws
 | [] => by simp [joinC]
 | [w] => by simp [joinC, lenS]
 | w :: v :: r => by
  have := joinC_len c (v :: r)
  rw [joinC, lenS_cons, List.length_append, List.length_cons]; omega
theorem join_p (ws : List Bs) (c : UInt8) (A : Option Addr) (cap : Nat) (w : World) (hA : Sl w w.heap.size 1 A ws.length (envC ws)) (hc : ws.length <= cap) (hn : 0 < ws.length) (hl : lenS ws <= 140737488355328) :
  Calls Tryz.prog 33 #[.slice A ws.length cap, strV [c]] w fun e w' => e = .returned (strV (joinC c ws)) /\ Below w.heap.size w w' := by
 obtain ⟨b, o, rfl, hb, hcell⟩ := hA.at_ hn
 have hm : (ws.map fun b : Bs => (⟨b.toArray⟩ : ByteArray)).map (·.data.toList) = ws := by
  rw [List.map_map]
  conv => rhs; rw [<- List.map_id ws]
  exact List.map_congr_left fun x _ => rfl
 have hlen : ws.length <= lenS ws := by
  clear hA hb hcell hn hc hl hm
  induction ws with
  | nil => simp
  | cons x r ih => rw [lenS_cons, List.length_cons]; omega
 have h := Tryz.strings_Join b o cap (ws.map fun b : Bs => (⟨b.toArray⟩ : ByteArray)) ⟨#[c]⟩ w (fun j x hx => by
   obtain ⟨y, hy, rfl⟩ : ∃ y, ws[j]? = some y /\ (⟨y.toArray⟩ : ByteArray) = x := by simpa using hx
   exact hcell j _ (by simp [envC, hy, strV])) hb (by rw [List.length_map]; omega) (by rw [List.length_map]; exact hc)
  (by rw [hm, show (⟨#[c]⟩ : ByteArray).data.toList = [c] from rfl, join_inter]; exact Nat.le_trans (joinC_len _ _) hl)
 rw [hm, show (⟨#[c]⟩ : ByteArray).data.toList = [c] from rfl, join_inter, List.length_map] at h
 exact h
/-- The program's names, with an empty one ahead. -/
def namesV : Array Value := (([] :: opNames).map strV).toArray
theorem namesV_size : namesV.size = 24 := rfl
theorem upon_of {P : Program} {o : Oper} {a : Act} {K : Act -> World -> Prop} {Q : Exit -> Act -> World -> Prop} {r : Result Next} {v : Value} {w : World} (e : r = .ok (.value v) w) (h : K (a.put o.dst v) w) : Oper.upon P o a K Q r := by
 rw [e, Oper.upon_value]; exact h
set_option maxRecDepth 100000 in
theorem names_p (w : World) : Calls Tryz.prog 43 #[] w fun e w' => e = .returned (.agg namesV) /\ Below w.heap.size w w' := by
 have hst : ∀ (W : World) (c : Array Value), c.size = 24 -> (storeCells ⟨W.heap.size, 0, none⟩ namesV.toList 0).run Tryz.prog (W.alloc (.cells c 97)) = .ok () (W.alloc (.cells namesV 97)) :=
  fun W c hc => run_storeCells_new W 97 c namesV (by kernel_rfl) (by rw [hc]; rfl) (by kernel_rfl)
 have hld : ∀ (W : World), (loadCellsFrom ⟨W.heap.size, 0, none⟩ 0 24 #[]).run Tryz.prog (W.alloc (.cells namesV 97)) = .ok namesV (W.alloc (.cells namesV 97)) :=
  fun W => run_loadCellsFrom_new W 97 namesV 24 rfl
 have hsz := namesV_size
 go_enter Tryz.func43, Tryz.ntmps43
 go_upto_region 1 with fail
 generalize hW : w.alloc _ = W
 refine wp_region_lit ?_
 refine wpList_plain rfl (fun K hK => ?_)
 unfold Oper.wp
 refine upon_of (v := .agg namesV) (w := W) ?ee ?_
 case ee => kernel_rfl
 refine hK _ _ ?_
 clear hK K
 subst hW
 go_wp2_with fail
 (try simp only [Exit.inBlock, Exit.then])
 refine bodyPost_ret (results_cell_row rfl _ _ w.heap.size 97 namesV (0, 0) _ rfl (heap_alloc_last w _) Tryz.underlying97 rfl (by kernel_rfl)) rfl ⟨rfl, bal (Below.refl _ _) _⟩
theorem names_at {op : Int} (h : 1 <= op /\ op <= 23) (hk : op.toNat < namesV.size) : namesV[op.toNat]'hk = strV (nameV op) := by
 obtain ⟨e, _, _⟩ := nameV_in h
 rw [e]
 obtain ⟨j, hj⟩ : ∃ j, op.toNat = j + 1 := ⟨op.toNat - 1, by omega⟩
 have hl : opNames.length = 23 := rfl
 have hjl : j < opNames.length := by omega
 simp only [hj, namesV, List.getElem_toArray, List.getElem_map, List.getElem_cons_succ, Nat.add_sub_cancel]
 rw [List.getD_eq_getElem?_getD, List.getElem?_eq_getElem hjl]; rfl
set_option maxRecDepth 100000 in
set_option maxHeartbeats 1000000 in
theorem name_c (op : Int) (w : World) (h0 : -128 <= op) (h1 : op <= 127) :
  Calls Tryz.prog 11 #[.int .i8 op] w fun e w' => e = .returned (strV (nameV op)) /\ Below w.heap.size w w' := by
 have hst : ∀ (W : World) (c : Array Value), c.size = 24 -> (storeCells ⟨W.heap.size, 0, none⟩ namesV.toList 0).run Tryz.prog (W.alloc (.cells c 97)) = .ok () (W.alloc (.cells namesV 97)) :=
  fun W c hc => run_storeCells_new W 97 c namesV (by kernel_rfl) (by rw [hc]; rfl) (by kernel_rfl)
 have hsz := namesV_size
 have hn := names_p w
 have hbd : (1 <= op /\ op <= 23) \/ op <= 0 \/ 24 <= op := by omega
 go_enter Tryz.func11, Tryz.ntmps11
 go_wp2_with fail
 (refine hn.mono ?_); rintro ev w1 ⟨rfl, hb⟩
 clear hn
 rcases hbd with ⟨h2, h3⟩ | h2 | h2
 ·
  go_wp2_with fail
  go_ret
  exact ⟨congrArg Ending.returned (names_at ⟨h2, h3⟩ _), bal hb _⟩
 ·
  go_wp2_with fail
  go_ret
  exact ⟨by rw [nameV_out (by omega)]; rfl, bal hb _⟩
 ·
  go_wp2_with fail
  go_ret
  exact ⟨by rw [nameV_out (by omega)]; rfl, bal hb _⟩
theorem ndW_eq (c : Nd) : ndW c = joinC 46 [Lib.itoa c.op, Lib.itoa c.proj, (if c.inj = true then [49] else [48]), Lib.itoa c.head, Lib.itoa c.lab, Lib.itoa c.from_, Lib.itoa c.to_] := by
 have : Lib.itoa (bitI c.inj) = (if c.inj = true then [49] else [48]) := by
  unfold bitI
  split <;> (unfold Lib.itoa; simp [Lib.decDigits])
 rw [ndW, ndWs, this]
theorem itoa_len {n : Int} (h : inR n) : (Lib.itoa n).length <= 21 := Lib.itoa_length_le n h.1 h.2
set_option maxRecDepth 100000 in
set_option maxHeartbeats 2000000 in
theorem node_c (c : Nd) (w : World) (h : c.ok) (hg : Gl w) :
  Calls Tryz.prog 36 #[.agg (ndC c).toArray] w fun e w' => e = .returned (strV (ndW c)) /\ Below w.heap.size w w' := by
 obtain ⟨h1, h2, h3, h4, h5, h6, h7, h8, h9, h10⟩ := h
 have HG := Lib.hid hg
 have ho := small_inR h1 (by omega)
 have hh := small_inR (show -128 <= c.head by omega) h5
 have hf := small_inR (show -128 <= c.from_ by omega) h8
 have ht := small_inR (show -128 <= c.to_ by omega) h10
 have hn := Lib.hid (fun n W (hn : inR n) (hb : Below w.heap.size w W) => num_c n W hn (hg.on hb))
 have wo : IntKind.i64.wrap c.op = c.op := IntWalk.i64_in _ ho
 have wh : IntKind.i64.wrap c.head = c.head := IntWalk.i64_in _ hh
 have wf : IntKind.i64.wrap c.from_ = c.from_ := IntWalk.i64_in _ hf
 have wt : IntKind.i64.wrap c.to_ = c.to_ := IntWalk.i64_in _ ht
 have hws : ∀ IS : Bs, IS.length <= 1 -> lenS [Lib.itoa c.op, Lib.itoa c.proj, IS, Lib.itoa c.head, Lib.itoa c.lab, Lib.itoa c.from_, Lib.itoa c.to_] <= 140737488355328 := by
  intro IS hi
  have := itoa_len ho; have := itoa_len h3; have := itoa_len hh; have := itoa_len h6; have := itoa_len hf; have := itoa_len ht
  simp only [lenS, List.map_cons, List.map_nil, List.sum_cons, List.sum_nil]
  omega
 have hjn := Lib.hid (show ∀ (W : World) (IS : Bs), IS.length <= 1 -> Calls Tryz.prog 33 #[.slice (some ⟨W.heap.size, 0, none⟩) 7 7, strV [46]]
   (W.alloc (.cells #[strV (Lib.itoa c.op), strV (Lib.itoa c.proj), strV IS, strV (Lib.itoa c.head), strV (Lib.itoa c.lab), strV (Lib.itoa c.from_), strV (Lib.itoa c.to_)] 9))
   fun e w' => e = .returned (strV (joinC 46 [Lib.itoa c.op, Lib.itoa c.proj, IS, Lib.itoa c.head, Lib.itoa c.lab, Lib.itoa c.from_, Lib.itoa c.to_])) /\
    Below (W.alloc (.cells #[strV (Lib.itoa c.op), strV (Lib.itoa c.proj), strV IS, strV (Lib.itoa c.head), strV (Lib.itoa c.lab), strV (Lib.itoa c.from_), strV (Lib.itoa c.to_)] 9)).heap.size
     (W.alloc (.cells #[strV (Lib.itoa c.op), strV (Lib.itoa c.proj), strV IS, strV (Lib.itoa c.head), strV (Lib.itoa c.lab), strV (Lib.itoa c.from_), strV (Lib.itoa c.to_)] 9)) w' from fun W IS hi =>
  join_p [Lib.itoa c.op, Lib.itoa c.proj, IS, Lib.itoa c.head, Lib.itoa c.lab, Lib.itoa c.from_, Lib.itoa c.to_] 46 _ 7 _ (by
   refine ⟨rfl, .inr ⟨W.heap.size, 0, rfl, by simp, fun j u hu => ?_⟩⟩
   rw [Nat.zero_add, World.cell?_alloc_new]
   simpa [envC] using hu) (Nat.le_refl 7) (Nat.succ_pos 6) (hws IS hi))
 rw [ndW_eq]
 clear hg hws
 unfold strV at hn hjn
 unfold ndC
 rcases hj : c.inj with _ | _
 ·
  simp only [Bool.false_eq_true, if_true, if_false, reduceIte]
  go_enter Tryz.func36, Tryz.ntmps36
  go_upto_region 4 with fail
  obtain ⟨b, hb⟩ : ∃ b, w.heap.size = b := ⟨_, rfl⟩
  obtain ⟨W1, hW1⟩ : ∃ W1, w.alloc (.cells #[.int .i8 c.op, .int .i64 c.proj, .bool false, .int .u8 c.head, .int .i64 c.lab, .int .u8 c.from_, .int .u8 c.to_] 86) = W1 := ⟨_, rfl⟩
  have hb1 : Below w.heap.size w W1 := by rw [<- hW1]; exact bal (Below.refl _ _) _
  have hbk : Blk W1 b 86 #[.int .i8 c.op, .int .i64 c.proj, .bool false, .int .u8 c.head, .int .i64 c.lab, .int .u8 c.from_, .int .u8 c.to_] := by rw [<- hW1, <- hb]; exact Blk.new _ _ _
  rw [hW1, hb]
  have HS := Lib.hid (show ∀ W, Below W1.heap.size W1 W -> Below W1.heap.size W1 W /\ W.cell? ⟨b, 0, none⟩ = some (.int .i8 c.op) /\ W.cell? ⟨b, 1, none⟩ = some (.int .i64 c.proj) /\ W.cell? ⟨b, 3, none⟩ = some (.int .u8 c.head) /\ W.cell? ⟨b, 4, none⟩ = some (.int .i64 c.lab) /\ W.cell? ⟨b, 5, none⟩ = some (.int .u8 c.from_) /\ W.cell? ⟨b, 6, none⟩ = some (.int .u8 c.to_) from fun W hw => by
   have k := hbk.below hw hbk.lt
   exact ⟨hw, (k.cell 0).trans rfl, (k.cell 1).trans rfl, (k.cell 3).trans rfl, (k.cell 4).trans rfl, (k.cell 5).trans rfl, (k.cell 6).trans rfl⟩)
  have HB1 := Lib.hid hb1
  clear hb1 hbk hW1 hb
  refine wp_region_held_drew (S := (fun W' => Below W1.heap.size W1 W' /\ W'.cell? ⟨b, 0, none⟩ = some (.int .i8 c.op) /\ W'.cell? ⟨b, 1, none⟩ = some (.int .i64 c.proj) /\ W'.cell? ⟨b, 3, none⟩ = some (.int .u8 c.head) /\ W'.cell? ⟨b, 4, none⟩ = some (.int .i64 c.lab) /\ W'.cell? ⟨b, 5, none⟩ = some (.int .u8 c.from_) /\ W'.cell? ⟨b, 6, none⟩ = some (.int .u8 c.to_))) (by kernel_rfl) ?ss1 (fun hHeld => ?rr1)
  case ss1 => (try dsimp only); exact HS.out _ (Below.refl _ _).drew
  refine rgt 0 6 rfl rfl hHeld ?_
  try simp only [Act.put, rg1, rg2, rg3]
  refine rgt 1 7 rfl rfl hHeld ?_
  try simp only [Act.put, rg1, rg2, rg3]
  refine rgt 2 8 rfl rfl hHeld ?_
  try simp only [Act.put, rg1, rg2, rg3]
  refine rgt 4 10 rfl rfl hHeld ?_
  try simp only [Act.put, rg1, rg2, rg3]
  refine rgt 5 11 rfl rfl hHeld ?_
  try simp only [Act.put, rg1, rg2, rg3]
  refine rgt 7 13 rfl rfl hHeld ?_
  try simp only [Act.put, rg1, rg2, rg3]
  refine rgt 8 14 rfl rfl hHeld ?_
  try simp only [Act.put, rg1, rg2, rg3]
  refine rgt 9 15 rfl rfl hHeld ?_
  try simp only [Act.put, rg1, rg2, rg3]
  refine rgt 10 16 rfl rfl hHeld ?_
  try simp only [Act.put, rg1, rg2, rg3]
  refine rgt 12 18 rfl rfl hHeld ?_
  try simp only [Act.put, rg1, rg2, rg3]
  refine rgt 13 19 rfl rfl hHeld ?_
  try simp only [Act.put, rg1, rg2, rg3]
  refine rgt 15 21 rfl rfl hHeld ?_
  try simp only [Act.put, rg1, rg2, rg3]
  refine rgt 16 22 rfl rfl hHeld ?_
  try simp only [Act.put, rg1, rg2, rg3]
  refine rgt 17 23 rfl rfl hHeld ?_
  try simp only [Act.put, rg1, rg2, rg3]
  refine rgt 19 25 rfl rfl hHeld ?_
  try simp only [Act.put, rg1, rg2, rg3]
  refine rgt 20 26 rfl rfl hHeld ?_
  try simp only [Act.put, rg1, rg2, rg3]
  refine rgt 21 27 rfl rfl hHeld ?_
  try simp only [Act.put, rg1, rg2, rg3]
  refine rgc 3 (some 9) rfl (fun K hK => ?_)
  go_simp
  ((refine (hn.out _ _ ho (bl HB1.out hHeld.1)).mono ?_); rintro e w2 ⟨rfl, hb2⟩)
  refine hK.out _ _ ?ss19 (fun hHeld2 => ?rr19)
  case ss19 => (try dsimp only); exact HS.out _ (bl hHeld.1 hb2)
  clear hK K
  clear hHeld
  have hHeld := hHeld2
  clear hHeld2
  try simp only [Act.put, rg1, rg2, rg3]
  refine rgc 6 (some 12) rfl (fun K hK => ?_)
  go_simp
  ((refine (hn.out _ _ h3 (bl HB1.out hHeld.1)).mono ?_); rintro e w3 ⟨rfl, hb3⟩)
  refine hK.out _ _ ?ss20 (fun hHeld2 => ?rr20)
  case ss20 => (try dsimp only); exact HS.out _ (bl hHeld.1 hb3)
  clear hK K
  clear hHeld
  have hHeld := hHeld2
  clear hHeld2
  try simp only [Act.put, rg1, rg2, rg3]
  refine rgc 11 (some 17) rfl (fun K hK => ?_)
  go_simp
  ((refine (hn.out _ _ hh (bl HB1.out hHeld.1)).mono ?_); rintro e w4 ⟨rfl, hb4⟩)
  refine hK.out _ _ ?ss21 (fun hHeld2 => ?rr21)
  case ss21 => (try dsimp only); exact HS.out _ (bl hHeld.1 hb4)
  clear hK K
  clear hHeld
  have hHeld := hHeld2
  clear hHeld2
  try simp only [Act.put, rg1, rg2, rg3]
  refine rgc 14 (some 20) rfl (fun K hK => ?_)
  go_simp
  ((refine (hn.out _ _ h6 (bl HB1.out hHeld.1)).mono ?_); rintro e w5 ⟨rfl, hb5⟩)
  refine hK.out _ _ ?ss22 (fun hHeld2 => ?rr22)
  case ss22 => (try dsimp only); exact HS.out _ (bl hHeld.1 hb5)
  clear hK K
  clear hHeld
  have hHeld := hHeld2
  clear hHeld2
  try simp only [Act.put, rg1, rg2, rg3]
  refine rgc 18 (some 24) rfl (fun K hK => ?_)
  go_simp
  ((refine (hn.out _ _ hf (bl HB1.out hHeld.1)).mono ?_); rintro e w6 ⟨rfl, hb6⟩)
  refine hK.out _ _ ?ss23 (fun hHeld2 => ?rr23)
  case ss23 => (try dsimp only); exact HS.out _ (bl hHeld.1 hb6)
  clear hK K
  clear hHeld
  have hHeld := hHeld2
  clear hHeld2
  try simp only [Act.put, rg1, rg2, rg3]
  refine rgc 22 (some 28) rfl (fun K hK => ?_)
  go_simp
  ((refine (hn.out _ _ ht (bl HB1.out hHeld.1)).mono ?_); rintro e w7 ⟨rfl, hb7⟩)
  refine hK.out _ _ ?ss24 (fun hHeld2 => ?rr24)
  case ss24 => (try dsimp only); exact HS.out _ (bl hHeld.1 hb7)
  clear hK K
  clear hHeld
  have hHeld := hHeld2
  clear hHeld2
  try simp only [Act.put, rg1, rg2, rg3]
  refine rgc 23 (some 29) rfl (fun K hK => ?_)
  go_simp
  skip
  refine hK.out _ _ ?ss25 (fun hHeld2 => ?rr25)
  case ss25 => (try dsimp only); exact HS.out _ (bal hHeld.1 _)
  clear hK K
  clear hHeld
  have hHeld := hHeld2
  clear hHeld2
  try simp only [Act.put, rg1, rg2, rg3]
  refine rgc 24 (some 30) rfl (fun K hK => ?_)
  go_simp
  ((refine (hjn.out _ [48] (by decide)).mono ?_); rintro e w8 ⟨rfl, hb8⟩)
  refine hK.out _ _ ?ss26 (fun hHeld2 => ?rr26)
  case ss26 => (try dsimp only); exact HS.out _ (bl hHeld.1 hb8)
  clear hK K
  clear hHeld
  have hHeld := hHeld2
  clear hHeld2
  try simp only [Act.put, rg1, rg2, rg3]
  refine rgt 25 2 rfl rfl hHeld ?_
  try simp only [Act.put, rg1, rg2, rg3]
  refine wpAnyH_done (by kernel_rfl) ?_ _
  go_wp2_with fail
  go_ret
  exact ⟨rfl, bl HB1.out hHeld.1⟩
 ·
  simp only [Bool.false_eq_true, if_true, if_false, reduceIte]
  go_enter Tryz.func36, Tryz.ntmps36
  go_upto_region 4 with fail
  obtain ⟨b, hb⟩ : ∃ b, w.heap.size = b := ⟨_, rfl⟩
  obtain ⟨W1, hW1⟩ : ∃ W1, w.alloc (.cells #[.int .i8 c.op, .int .i64 c.proj, .bool true, .int .u8 c.head, .int .i64 c.lab, .int .u8 c.from_, .int .u8 c.to_] 86) = W1 := ⟨_, rfl⟩
  have hb1 : Below w.heap.size w W1 := by rw [<- hW1]; exact bal (Below.refl _ _) _
  have hbk : Blk W1 b 86 #[.int .i8 c.op, .int .i64 c.proj, .bool true, .int .u8 c.head, .int .i64 c.lab, .int .u8 c.from_, .int .u8 c.to_] := by rw [<- hW1, <- hb]; exact Blk.new _ _ _
  rw [hW1, hb]
  have HS := Lib.hid (show ∀ W, Below W1.heap.size W1 W -> Below W1.heap.size W1 W /\ W.cell? ⟨b, 0, none⟩ = some (.int .i8 c.op) /\ W.cell? ⟨b, 1, none⟩ = some (.int .i64 c.proj) /\ W.cell? ⟨b, 3, none⟩ = some (.int .u8 c.head) /\ W.cell? ⟨b, 4, none⟩ = some (.int .i64 c.lab) /\ W.cell? ⟨b, 5, none⟩ = some (.int .u8 c.from_) /\ W.cell? ⟨b, 6, none⟩ = some (.int .u8 c.to_) from fun W hw => by
   have k := hbk.below hw hbk.lt
   exact ⟨hw, (k.cell 0).trans rfl, (k.cell 1).trans rfl, (k.cell 3).trans rfl, (k.cell 4).trans rfl, (k.cell 5).trans rfl, (k.cell 6).trans rfl⟩)
  have HB1 := Lib.hid hb1
  clear hb1 hbk hW1 hb
  refine wp_region_held_drew (S := (fun W' => Below W1.heap.size W1 W' /\ W'.cell? ⟨b, 0, none⟩ = some (.int .i8 c.op) /\ W'.cell? ⟨b, 1, none⟩ = some (.int .i64 c.proj) /\ W'.cell? ⟨b, 3, none⟩ = some (.int .u8 c.head) /\ W'.cell? ⟨b, 4, none⟩ = some (.int .i64 c.lab) /\ W'.cell? ⟨b, 5, none⟩ = some (.int .u8 c.from_) /\ W'.cell? ⟨b, 6, none⟩ = some (.int .u8 c.to_))) (by kernel_rfl) ?ss28 (fun hHeld => ?rr28)
  case ss28 => (try dsimp only); exact HS.out _ (Below.refl _ _).drew
  refine rgt 0 6 rfl rfl hHeld ?_
  try simp only [Act.put, rg1, rg2, rg3]
  refine rgt 1 7 rfl rfl hHeld ?_
  try simp only [Act.put, rg1, rg2, rg3]
  refine rgt 2 8 rfl rfl hHeld ?_
  try simp only [Act.put, rg1, rg2, rg3]
  refine rgt 4 10 rfl rfl hHeld ?_
  try simp only [Act.put, rg1, rg2, rg3]
  refine rgt 5 11 rfl rfl hHeld ?_
  try simp only [Act.put, rg1, rg2, rg3]
  refine rgt 7 13 rfl rfl hHeld ?_
  try simp only [Act.put, rg1, rg2, rg3]
  refine rgt 8 14 rfl rfl hHeld ?_
  try simp only [Act.put, rg1, rg2, rg3]
  refine rgt 9 15 rfl rfl hHeld ?_
  try simp only [Act.put, rg1, rg2, rg3]
  refine rgt 10 16 rfl rfl hHeld ?_
  try simp only [Act.put, rg1, rg2, rg3]
  refine rgt 12 18 rfl rfl hHeld ?_
  try simp only [Act.put, rg1, rg2, rg3]
  refine rgt 13 19 rfl rfl hHeld ?_
  try simp only [Act.put, rg1, rg2, rg3]
  refine rgt 15 21 rfl rfl hHeld ?_
  try simp only [Act.put, rg1, rg2, rg3]
  refine rgt 16 22 rfl rfl hHeld ?_
  try simp only [Act.put, rg1, rg2, rg3]
  refine rgt 17 23 rfl rfl hHeld ?_
  try simp only [Act.put, rg1, rg2, rg3]
  refine rgt 19 25 rfl rfl hHeld ?_
  try simp only [Act.put, rg1, rg2, rg3]
  refine rgt 20 26 rfl rfl hHeld ?_
  try simp only [Act.put, rg1, rg2, rg3]
  refine rgt 21 27 rfl rfl hHeld ?_
  try simp only [Act.put, rg1, rg2, rg3]
  refine rgc 3 (some 9) rfl (fun K hK => ?_)
  go_simp
  ((refine (hn.out _ _ ho (bl HB1.out hHeld.1)).mono ?_); rintro e w2 ⟨rfl, hb2⟩)
  refine hK.out _ _ ?ss46 (fun hHeld2 => ?rr46)
  case ss46 => (try dsimp only); exact HS.out _ (bl hHeld.1 hb2)
  clear hK K
  clear hHeld
  have hHeld := hHeld2
  clear hHeld2
  try simp only [Act.put, rg1, rg2, rg3]
  refine rgc 6 (some 12) rfl (fun K hK => ?_)
  go_simp
  ((refine (hn.out _ _ h3 (bl HB1.out hHeld.1)).mono ?_); rintro e w3 ⟨rfl, hb3⟩)
  refine hK.out _ _ ?ss47 (fun hHeld2 => ?rr47)
  case ss47 => (try dsimp only); exact HS.out _ (bl hHeld.1 hb3)
  clear hK K
  clear hHeld
  have hHeld := hHeld2
  clear hHeld2
  try simp only [Act.put, rg1, rg2, rg3]
  refine rgc 11 (some 17) rfl (fun K hK => ?_)
  go_simp
  ((refine (hn.out _ _ hh (bl HB1.out hHeld.1)).mono ?_); rintro e w4 ⟨rfl, hb4⟩)
  refine hK.out _ _ ?ss48 (fun hHeld2 => ?rr48)
  case ss48 => (try dsimp only); exact HS.out _ (bl hHeld.1 hb4)
  clear hK K
  clear hHeld
  have hHeld := hHeld2
  clear hHeld2
  try simp only [Act.put, rg1, rg2, rg3]
  refine rgc 14 (some 20) rfl (fun K hK => ?_)
  go_simp
  ((refine (hn.out _ _ h6 (bl HB1.out hHeld.1)).mono ?_); rintro e w5 ⟨rfl, hb5⟩)
  refine hK.out _ _ ?ss49 (fun hHeld2 => ?rr49)
  case ss49 => (try dsimp only); exact HS.out _ (bl hHeld.1 hb5)
  clear hK K
  clear hHeld
  have hHeld := hHeld2
  clear hHeld2
  try simp only [Act.put, rg1, rg2, rg3]
  refine rgc 18 (some 24) rfl (fun K hK => ?_)
  go_simp
  ((refine (hn.out _ _ hf (bl HB1.out hHeld.1)).mono ?_); rintro e w6 ⟨rfl, hb6⟩)
  refine hK.out _ _ ?ss50 (fun hHeld2 => ?rr50)
  case ss50 => (try dsimp only); exact HS.out _ (bl hHeld.1 hb6)
  clear hK K
  clear hHeld
  have hHeld := hHeld2
  clear hHeld2
  try simp only [Act.put, rg1, rg2, rg3]
  refine rgc 22 (some 28) rfl (fun K hK => ?_)
  go_simp
  ((refine (hn.out _ _ ht (bl HB1.out hHeld.1)).mono ?_); rintro e w7 ⟨rfl, hb7⟩)
  refine hK.out _ _ ?ss51 (fun hHeld2 => ?rr51)
  case ss51 => (try dsimp only); exact HS.out _ (bl hHeld.1 hb7)
  clear hK K
  clear hHeld
  have hHeld := hHeld2
  clear hHeld2
  try simp only [Act.put, rg1, rg2, rg3]
  refine rgc 23 (some 29) rfl (fun K hK => ?_)
  go_simp
  skip
  refine hK.out _ _ ?ss52 (fun hHeld2 => ?rr52)
  case ss52 => (try dsimp only); exact HS.out _ (bal hHeld.1 _)
  clear hK K
  clear hHeld
  have hHeld := hHeld2
  clear hHeld2
  try simp only [Act.put, rg1, rg2, rg3]
  refine rgc 24 (some 30) rfl (fun K hK => ?_)
  go_simp
  ((refine (hjn.out _ [49] (by decide)).mono ?_); rintro e w8 ⟨rfl, hb8⟩)
  refine hK.out _ _ ?ss53 (fun hHeld2 => ?rr53)
  case ss53 => (try dsimp only); exact HS.out _ (bl hHeld.1 hb8)
  clear hK K
  clear hHeld
  have hHeld := hHeld2
  clear hHeld2
  try simp only [Act.put, rg1, rg2, rg3]
  refine rgt 25 2 rfl rfl hHeld ?_
  try simp only [Act.put, rg1, rg2, rg3]
  refine wpAnyH_done (by kernel_rfl) ?_ _
  go_wp2_with fail
  go_ret
  exact ⟨rfl, bl HB1.out hHeld.1⟩
end Go.Proofs.YtobplngonkdbpaaGreatDoor.D
/- CeW -/
namespace Go.Proofs.YtobplngonkdbpaaGreatDoor.D
open Go.RowKit
open Go.Proofs.YtobplngonkdbpaaGreatDoor.B
set_option linter.unusedVariables false
set_option linter.unusedSimpArgs false
theorem info9 : (Tryz.prog.info? 9).map (fun i => (i.zero, i.size, i.bytes)) = some (some (.string ⟨#[]⟩), 1, 16) := by kernel_rfl
theorem ext_at (s : Bs) (a b : Nat) : (⟨s.toArray⟩ : ByteArray).extract a b = ⟨((s.drop a).take (b - a)).toArray⟩ := by
 have h := Lib.extract_data ⟨s.toArray⟩ a b
 apply ByteArray.ext
 apply Array.ext'
 exact h
/-- A place, or -1. -/
def idI : Option Nat -> Int
 | none => -1
 | some n => n
theorem idI_ge (o : Option Nat) : -1 <= idI o := by cases o <;> simp only [idI] <;> omega
theorem indexByte_eq (c : UInt8) : ∀ l : Bs, Lib.indexByte l c = idI (idxB c l)
 | [] => rfl
 | x :: r => by
  rw [Lib.indexByte, idxB, indexByte_eq c r]
  by_cases h : x = c
  · rw [if_pos h, if_pos (by simpa using h)]; rfl
  ·
   rw [if_neg h, if_neg (by simpa using h)]
   rcases idxB c r with _ | n
   · rfl
   · rw [if_neg (by simp only [idI, beq_iff_eq]; omega)]; simp [idI]
theorem index_eq (c d : UInt8) : ∀ l : Bs, Lib.index l [c, d] = idI (idx2 c d l)
 | [] => rfl
 | x :: r => by
  rw [Lib.index, idx2, index_eq c d r]
  have hp : List.isPrefixOf [c, d] (x :: r) = true ↔ (x = c /\ r.head? = some d) := by
   cases r with
   | nil => simp [List.isPrefixOf]
   | cons y r =>
    simp only [List.isPrefixOf, Bool.and_eq_true, beq_iff_eq, List.head?_cons, Option.some.injEq, and_true]
    constructor <;> rintro ⟨h1, h2⟩ <;> exact ⟨h1.symm, h2.symm⟩
  by_cases h : x = c /\ r.head? = some d
  · rw [if_pos h, if_pos (hp.2 h)]; rfl
  ·
   rw [if_neg h, if_neg (fun h2 => h (hp.1 h2))]
   rcases idx2 c d r with _ | n
   · rfl
   · rw [if_neg (by simp only [idI, beq_iff_eq]; omega)]; simp [idI]
theorem prefix_eq (c : UInt8) (l : Bs) : Lib.hasPrefix l [c] = (l.head? == some c) := by
 cases l with
 | nil => rfl
 | cons x r =>
  have h : ([c].isPrefixOf (x :: r)) = (c == x) := by simp [List.isPrefixOf]
  rw [Lib.hasPrefix, h, List.head?_cons]
  by_cases e : c = x
  · subst e; simp
  · rw [show (c == x) = false by simpa using e, show (some x == some c) = false by simpa using fun k => e k.symm]
theorem envC_app (a b : List Bs) : envC (a ++ b) = envC a ++ envC b := by simp [envC]
set_option maxRecDepth 100000 in
set_option maxHeartbeats 2000000 in
theorem words_p (s : Bs) (w : World) (hl : s.length <= 1073741824) (hg : Gl w) :
  Calls Tryz.prog 101 #[strV s] w fun e w' => ∃ v, e = .returned v /\ w'.ownsRow w.heap.size 9 1 v (wordsP s).length (envC (wordsP s)) /\ Below w.heap.size w w' := by
 obtain ⟨i0, hi0, hz0, hz1, hz2⟩ := info_parts info9
 have HG := Lib.hid hg
 clear hg
 unfold strV
 go_enter Tryz.func101, Tryz.ntmps101
 go_wp2_with fail
 go_loopg [0, 3] s.length (fun g u v wr => ∃ (done : List Bs) (r : Bs), g = r.length /\ u = .string ⟨r.toArray⟩ /\ Hid (done.length + r.length <= s.length /\ wr.ownsRow w.heap.size 9 1 v done.length (envC done) /\ done ++ wordsP r = wordsP s) /\ Below w.heap.size w wr)
 case atStart => exact ⟨[], s, rfl, rfl, Lib.hid ⟨by simp, World.ownsRow_nil _ _ _ _, rfl⟩, Below.refl _ _⟩
 case round =>
  obtain ⟨done, r, rfl, rfl, HR, hb⟩ := hrel
  obtain ⟨AV, cV, rfl, hc1, hc2⟩ := own_shape HR.out.2.1
  have hdl := HR.out.1
  have hsz := str_size r
  obtain ⟨m, hm⟩ := (HG.out.on hb).maxl
  have hI := Tryz.strings_IndexByte ⟨r.toArray⟩ 32 wr
  rw [show (⟨r.toArray⟩ : ByteArray).data.toList = r from rfl, show (Int.toNat 32).toUInt8 = 32 from rfl, indexByte_eq] at hI
  have hP := Tryz.strings_HasPrefix ⟨r.toArray⟩ ⟨#[34]⟩ wr
  rw [show (⟨r.toArray⟩ : ByteArray).data.toList = r from rfl, show (⟨#[34]⟩ : ByteArray).data.toList = [34] from rfl, prefix_eq] at hP
  have hX := Tryz.strings_Index ⟨(r.drop 1).toArray⟩ ⟨#[34, 32]⟩ m wr (by rw [str_size, List.length_drop]; omega) hm
  rw [show (⟨(r.drop 1).toArray⟩ : ByteArray).data.toList = r.drop 1 from rfl, show (⟨#[34, 32]⟩ : ByteArray).data.toList = [34, 32] from rfl, index_eq] at hX
  obtain ⟨tl, htl⟩ : ∃ tl, r.drop 1 = tl := ⟨_, rfl⟩
  rw [htl] at hX
  have HOWN := Lib.hid (show ∀ W, Below wr.heap.size wr W -> W.ownsRow w.heap.size 9 1 (.slice AV done.length cV) done.length (envC done) from fun W hw => own_below HR.out.2.1 hw)
  have hbs := hb.size
  clear hm
  by_cases hq : r.head? = some 34
  ·
   have hr0 : 1 <= r.length := by
    cases r with
    | nil => cases hq
    | cons x r => simp
   rw [show (r.head? == some 34) = true by rw [hq]; rfl] at hP
   have hext := ext_at r 1 r.length
   rw [show (r.drop 1).take (r.length - 1) = r.drop 1 from List.take_of_length_le (by simp), htl] at hext
   have hge := idI_ge (idxB 32 r)
   rcases h2 : idx2 34 32 tl with _ | e
   ·
    rw [h2] at hX
    simp only [idI] at hX
    have HE := Lib.hid (show endW r = none by rw [endW, if_pos hq, htl, h2]; rfl)
    clear hq h2 htl
    go_wp2_with fail
    (refine hI.mono ?_); rintro ev w1 ⟨rfl, rfl⟩
    go_wp2_with fail
    (refine hP.mono ?_); rintro ev w1 ⟨rfl, rfl⟩
    go_wp2_with fail
    (refine hX.mono ?_); rintro ev w1 ⟨rfl, rfl⟩
    have hown1 := HOWN.out _ (bal (Below.refl _ _) (.cells #[.string ⟨r.toArray⟩] 9))
    go_wp2_with (at_builtin; refine wpList_append_sl _ rfl (.tmp 18) (.tmp 20) _ rfl w.heap.size 9 i0 _ 1 16 Tryz.underlying25 hi0 hz0 hz1 hz2 rfl (by omega) _ _ _ rfl hown1 (w1.heap.size + 1) (some ⟨w1.heap.size, 0, none⟩) 1 1 [.string ⟨r.toArray⟩] rfl (Sl.one w1 _ _) (fun u hu => by rw [List.mem_singleton.1 hu]; rfl) (by unfold maxLen; omega) (by omega) (by simp only [World.size_alloc]; omega) ?_; intro v' w2 hown2 hgrow _)
    go_ret
    refine ⟨v', rfl, ?_, (bal hb _).grown hgrow (by simp only [World.size_alloc]; omega) fun k hk => (HR.out.2.1.lt k hk).1⟩
    rw [<- HR.out.2.2, wordsP_none HE.out, List.length_append, envC_app]
    exact hown2
   ·
    rw [h2] at hX
    simp only [idI] at hX
    have he : endW r = some (e + 2) := by rw [endW, if_pos hq, htl, h2]; rfl
    obtain ⟨hlt, h32⟩ := endW_lt he
    have HE := Lib.hid he
    have hx1 := ext_at r 0 (e + 2)
    have hx2 := ext_at r ((e + 2) + 1) r.length
    rw [Nat.sub_zero, List.drop_zero] at hx1
    rw [show (r.drop ((e + 2) + 1)).take (r.length - ((e + 2) + 1)) = r.drop ((e + 2) + 1) from List.take_of_length_le (by simp)] at hx2
    have HS := Lib.hid (show ∀ W, Below wr.heap.size wr W -> W.ownsRow w.heap.size 9 1 (.slice AV done.length cV) done.length (envC done) from fun W hw => own_below HR.out.2.1 hw)
    have q1 : (e : Int) + 2 <= (r.length : Int) := by omega
    have q2 : ((e : Int) + 2).toNat = e + 2 := by omega
    obtain ⟨f, hf⟩ : ∃ f, e + 2 + 1 = f := ⟨_, rfl⟩
    have q3 : IntKind.i64.wrap ((e : Int) + 2 + 1) = (f : Int) := by rw [IntWalk.i64_in _ ⟨by omega, by omega⟩]; omega
    have q5 : f <= r.length := by omega
    rw [hf] at hx2
    have HF := Lib.hid hf
    clear hf
    clear hq h2 he h32 htl
    go_wp2_with fail
    (refine hI.mono ?_); rintro ev w1 ⟨rfl, rfl⟩
    go_wp2_with fail
    (refine hP.mono ?_); rintro ev w1 ⟨rfl, rfl⟩
    go_wp2_with fail
    (refine hX.mono ?_); rintro ev w1 ⟨rfl, rfl⟩
    go_wp2_with fail
    refine wp_region_held_drew (S := (fun _ => True)) (by kernel_rfl) ?ss1 (fun hHeld => ?rr1)
    case ss1 => (try dsimp only); skip
    refine rgt 0 22 rfl rfl hHeld ?_
    try simp only [Act.put, rg1, rg2, rg3]
    refine rgt 1 23 rfl rfl hHeld ?_
    try simp only [Act.put, rg1, rg2, rg3]
    refine rgt 2 24 rfl rfl hHeld ?_
    try simp only [Act.put, rg1, rg2, rg3]
    refine rgt 3 25 rfl rfl hHeld ?_
    try simp only [Act.put, rg1, rg2, rg3]
    refine rgt 6 28 rfl rfl hHeld ?_
    try simp only [Act.put, rg1, rg2, rg3]
    refine rgt 7 29 rfl rfl hHeld ?_
    try simp only [Act.put, rg1, rg2, rg3]
    refine rgt 8 30 rfl rfl hHeld ?_
    try simp only [Act.put, rg1, rg2, rg3]
    refine rgt 9 31 rfl rfl hHeld ?_
    try simp only [Act.put, rg1, rg2, rg3]
    refine rgc 4 (some 26) rfl (fun K hK => ?_)
    go_simp
    go_simp
    refine hK.out _ _ ?ss10 (fun hHeld2 => ?rr10)
    case ss10 => (try dsimp only); skip
    clear hK K
    clear hHeld
    have hHeld := hHeld2
    clear hHeld2
    try simp only [Act.put, rg1, rg2, rg3]
    refine rgc 5 (some 27) rfl (fun K hK => ?_)
    (refine step_append_sl rfl (.tmp 22) (.tmp 26) _ rfl w.heap.size 9 i0 _ 1 16 Tryz.underlying25 hi0 hz0 hz1 hz2 rfl (by omega) (.slice AV done.length cV) done.length (envC done) rfl (HS.out _ (bal (Below.refl _ _).drew _)) (w1.heap.size + 1) (some ⟨w1.heap.size, 0, none⟩) 1 1 [.string ⟨(r.take (e + 2)).toArray⟩] rfl (Sl.one w1.drew _ _) (fun u hu => by rw [List.mem_singleton.1 hu]; rfl) (by unfold maxLen; omega) (by omega) (by simp only [World.size_alloc, World.size_drew]; omega) ?_; intro V' w6 hown6 hg6 hV6)
    refine hK.out _ _ ?ss11 (fun hHeld2 => ?rr11)
    case ss11 => (try dsimp only); skip
    clear hK K
    clear hHeld
    have hHeld := hHeld2
    clear hHeld2
    try simp only [Act.put, rg1, rg2, rg3]
    refine rgt 10 3 rfl rfl hHeld ?_
    try simp only [Act.put, rg1, rg2, rg3]
    refine rgt 11 0 rfl rfl hHeld ?_
    try simp only [Act.put, rg1, rg2, rg3]
    refine wpAnyH_done (by kernel_rfl) ?_ _
    go_wp2_with fail
    have HFIN := Lib.hid (show (done ++ [r.take (e + 2)]).length + (r.drop f).length <= s.length /\ w6.ownsRow w.heap.size 9 1 V' (done ++ [r.take (e + 2)]).length (envC (done ++ [r.take (e + 2)])) /\ (done ++ [r.take (e + 2)]) ++ wordsP (r.drop f) = wordsP s from by
     refine ⟨by have := HF.out; rw [List.length_append, List.length_drop, List.length_singleton]; omega, by rw [List.length_append, envC_app]; exact hown6, ?_⟩
     rw [<- HR.out.2.2, wordsP_some HE.out, <- HF.out]; simp)
    have hb6 : Below w.heap.size w w6 := ((bal hb.drew _)).grown hg6 (by simp only [World.size_alloc, World.size_drew]; omega) fun k hk => (HR.out.2.1.lt k hk).1
    go_roundg (r.drop f).length
    case measure => have := HF.out; rw [List.length_drop]; omega
    case rel => exact ⟨done ++ [r.take (e + 2)], r.drop f, rfl, rfl, HFIN, hb6⟩
  ·
   rw [show (r.head? == some 34) = false by simpa using hq] at hP
   rcases h2 : idxB 32 r with _ | e
   ·
    rw [h2] at hI
    simp only [idI] at hI
    have HE := Lib.hid (show endW r = none by rw [endW, if_neg hq, h2])
    clear hq h2 htl
    go_wp2_with fail
    (refine hI.mono ?_); rintro ev w1 ⟨rfl, rfl⟩
    go_wp2_with fail
    (refine hP.mono ?_); rintro ev w1 ⟨rfl, rfl⟩
    have hown1 := HOWN.out _ (bal (Below.refl _ _) (.cells #[.string ⟨r.toArray⟩] 9))
    go_wp2_with (at_builtin; refine wpList_append_sl _ rfl (.tmp 18) (.tmp 20) _ rfl w.heap.size 9 i0 _ 1 16 Tryz.underlying25 hi0 hz0 hz1 hz2 rfl (by omega) _ _ _ rfl hown1 (w1.heap.size + 1) (some ⟨w1.heap.size, 0, none⟩) 1 1 [.string ⟨r.toArray⟩] rfl (Sl.one w1 _ _) (fun u hu => by rw [List.mem_singleton.1 hu]; rfl) (by unfold maxLen; omega) (by omega) (by simp only [World.size_alloc]; omega) ?_; intro v' w2 hown2 hgrow _)
    go_ret
    refine ⟨v', rfl, ?_, (bal hb _).grown hgrow (by simp only [World.size_alloc]; omega) fun k hk => (HR.out.2.1.lt k hk).1⟩
    rw [<- HR.out.2.2, wordsP_none HE.out, List.length_append, envC_app]
    exact hown2
   ·
    rw [h2] at hI
    simp only [idI] at hI
    have he : endW r = some e := by rw [endW, if_neg hq, h2]
    obtain ⟨hlt, h32⟩ := endW_lt he
    have HE := Lib.hid he
    have hx1 := ext_at r 0 e
    have hx2 := ext_at r (e + 1) r.length
    rw [Nat.sub_zero, List.drop_zero] at hx1
    rw [show (r.drop (e + 1)).take (r.length - (e + 1)) = r.drop (e + 1) from List.take_of_length_le (by simp)] at hx2
    have HS := Lib.hid (show ∀ W, Below wr.heap.size wr W -> W.ownsRow w.heap.size 9 1 (.slice AV done.length cV) done.length (envC done) from fun W hw => own_below HR.out.2.1 hw)
    have q1 : e <= r.length := by omega
    obtain ⟨f, hf⟩ : ∃ f, e + 1 = f := ⟨_, rfl⟩
    have q3 : IntKind.i64.wrap ((e : Int) + 1) = (f : Int) := by rw [IntWalk.i64_in _ ⟨by omega, by omega⟩]; omega
    have q5 : f <= r.length := by omega
    rw [hf] at hx2
    have HF := Lib.hid hf
    clear hf
    clear hq h2 he h32 htl
    go_wp2_with fail
    (refine hI.mono ?_); rintro ev w1 ⟨rfl, rfl⟩
    go_wp2_with fail
    (refine hP.mono ?_); rintro ev w1 ⟨rfl, rfl⟩
    go_wp2_with fail
    refine wp_region_held_drew (S := (fun _ => True)) (by kernel_rfl) ?ss14 (fun hHeld => ?rr14)
    case ss14 => (try dsimp only); skip
    refine rgt 0 22 rfl rfl hHeld ?_
    try simp only [Act.put, rg1, rg2, rg3]
    refine rgt 1 23 rfl rfl hHeld ?_
    try simp only [Act.put, rg1, rg2, rg3]
    refine rgt 2 24 rfl rfl hHeld ?_
    try simp only [Act.put, rg1, rg2, rg3]
    refine rgt 3 25 rfl rfl hHeld ?_
    try simp only [Act.put, rg1, rg2, rg3]
    refine rgt 6 28 rfl rfl hHeld ?_
    try simp only [Act.put, rg1, rg2, rg3]
    refine rgt 7 29 rfl rfl hHeld ?_
    try simp only [Act.put, rg1, rg2, rg3]
    refine rgt 8 30 rfl rfl hHeld ?_
    try simp only [Act.put, rg1, rg2, rg3]
    refine rgt 9 31 rfl rfl hHeld ?_
    try simp only [Act.put, rg1, rg2, rg3]
    refine rgc 4 (some 26) rfl (fun K hK => ?_)
    go_simp
    go_simp
    refine hK.out _ _ ?ss23 (fun hHeld2 => ?rr23)
    case ss23 => (try dsimp only); skip
    clear hK K
    clear hHeld
    have hHeld := hHeld2
    clear hHeld2
    try simp only [Act.put, rg1, rg2, rg3]
    refine rgc 5 (some 27) rfl (fun K hK => ?_)
    (refine step_append_sl rfl (.tmp 22) (.tmp 26) _ rfl w.heap.size 9 i0 _ 1 16 Tryz.underlying25 hi0 hz0 hz1 hz2 rfl (by omega) (.slice AV done.length cV) done.length (envC done) rfl (HS.out _ (bal (Below.refl _ _).drew _)) (w1.heap.size + 1) (some ⟨w1.heap.size, 0, none⟩) 1 1 [.string ⟨(r.take e).toArray⟩] rfl (Sl.one w1.drew _ _) (fun u hu => by rw [List.mem_singleton.1 hu]; rfl) (by unfold maxLen; omega) (by omega) (by simp only [World.size_alloc, World.size_drew]; omega) ?_; intro V' w6 hown6 hg6 hV6)
    refine hK.out _ _ ?ss24 (fun hHeld2 => ?rr24)
    case ss24 => (try dsimp only); skip
    clear hK K
    clear hHeld
    have hHeld := hHeld2
    clear hHeld2
    try simp only [Act.put, rg1, rg2, rg3]
    refine rgt 10 3 rfl rfl hHeld ?_
    try simp only [Act.put, rg1, rg2, rg3]
    refine rgt 11 0 rfl rfl hHeld ?_
    try simp only [Act.put, rg1, rg2, rg3]
    refine wpAnyH_done (by kernel_rfl) ?_ _
    go_wp2_with fail
    have HFIN := Lib.hid (show (done ++ [r.take e]).length + (r.drop f).length <= s.length /\ w6.ownsRow w.heap.size 9 1 V' (done ++ [r.take e]).length (envC (done ++ [r.take e])) /\ (done ++ [r.take e]) ++ wordsP (r.drop f) = wordsP s from by
     refine ⟨by have := HF.out; rw [List.length_append, List.length_drop, List.length_singleton]; omega, by rw [List.length_append, envC_app]; exact hown6, ?_⟩
     rw [<- HR.out.2.2, wordsP_some HE.out, <- HF.out]; simp)
    have hb6 : Below w.heap.size w w6 := ((bal hb.drew _)).grown hg6 (by simp only [World.size_alloc, World.size_drew]; omega) fun k hk => (HR.out.2.1.lt k hk).1
    go_roundg (r.drop f).length
    case measure => have := HF.out; rw [List.length_drop]; omega
    case rel => exact ⟨done ++ [r.take e], r.drop f, rfl, rfl, HFIN, hb6⟩
end Go.Proofs.YtobplngonkdbpaaGreatDoor.D
