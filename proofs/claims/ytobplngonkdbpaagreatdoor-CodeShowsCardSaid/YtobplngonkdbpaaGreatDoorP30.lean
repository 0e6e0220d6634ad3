/- Parts of this claim: CgK, CgL, CgM, AnI, AnJ, AnK, AnL, AnM. -/
import Derived.Test.YtobplngonkdbpaaGreatDoorP29
import Derived.Test.YtobplngonkdbpaaGreatDoorP05
import Derived.Test.YtobplngonkdbpaaGreatDoorP25
import Derived.Test.YtobplngonkdbpaaGreatDoorP24
import Derived.Test.YtobplngonkdbpaaGreatDoorP23
import Derived.Test.YtobplngonkdbpaaGreatDoorP28
import Derived.Test.YtobplngonkdbpaaGreatDoorP17
import Derived.Test.YtobplngonkdbpaaGreatDoorP19
import Derived.Test.YtobplngonkdbpaaGreatDoorP20
import Derived.Test.YtobplngonkdbpaaGreatDoorP21
set_option linter.unusedVariables false
set_option linter.unusedSimpArgs false
/- CgK -/
namespace Go.Proofs.YtobplngonkdbpaaGreatDoor.D
open Go.RowKit
open Go.Proofs.YtobplngonkdbpaaGreatDoor.B
set_option linter.unusedVariables false
set_option linter.unusedSimpArgs false
theorem long_c (n : Int) (w : World) : Calls Tryz.prog 24 #[.int .i64 n] w fun e w' => e = .returned (.bool (decide (2147483647 < n))) /\ w = w' := by
 go_enter Tryz.func24, Tryz.ntmps24
 go_wp2_with fail
 go_ret
 exact ⟨rfl, rfl⟩
/-- A load of a struct, guarded or not. -/
theorem wpList_load_row_g {P : Program} {ops : Array Oper} {rest : List Oper} {o : Oper} {a : Act} {w : World} {Q : Exit -> Act -> World -> Prop} (hw : Region.wanted o (yielded ops a.tmps) = true) (ty : TypeId) (x : Operand) (ho : o.op = .load ty x)
  (g : Nat) (hx : a.eval x = .pointer (some ⟨g, 0, none⟩)) (t : TypeId) (cs : Array Value) (fr : Nat × Nat) (d : TypeDesc) (hg : w.heap[g]? = some (.cells cs t fr))
  (hu : P.underlying ty = some d) (hd : (match d with | .struct _ | .array _ _ => true | _ => false) = true) (hi : (P.info? ty).map (·.size) = some cs.size)
  (h : wpList P ops Q rest (a.put o.dst (.agg cs)) w) : wpList P ops Q (o :: rest) a w := by
 unfold wpList
 rw [if_pos hw]
 exact .inl (wp_load_row ty x ho g hx t cs fr d hg hu hd hi h)
set_option maxRecDepth 100000 in
set_option maxHeartbeats 4000000 in
theorem heavy_c (L : CoL) (w : World) (h : CR w L) (hB : RBd L) :
  Calls Tryz.prog 6 #[.agg L.vals.toArray] w fun e w' => ∃ b : Bool, e = .returned (.bool b) /\ (b = false -> mC L.code <= 32768) /\ Below w.heap.size w w' := by
 obtain ⟨A1, c1, e1, hc1, hd1, s1⟩ := h.f.sl
 obtain ⟨A2, c2, e2, hc2, hd2, s2⟩ := h.c.sl
 obtain ⟨A3, c3, e3, hc3, hd3, s3⟩ := h.n.sl
 obtain ⟨A4, c4, e4, hc4, hd4, s4⟩ := h.t.sl
 obtain ⟨A5, c5, e5, hc5, hd5, s5⟩ := h.y.sl
 obtain ⟨n1, hn1⟩ : ∃ n, L.fns.length = n := ⟨_, rfl⟩
 obtain ⟨n2, hn2⟩ : ∃ n, L.casts.length = n := ⟨_, rfl⟩
 obtain ⟨n3, hn3⟩ : ∃ n, L.nums.length = n := ⟨_, rfl⟩
 obtain ⟨n4, hn4⟩ : ∃ n, L.texts.length = n := ⟨_, rfl⟩
 obtain ⟨n5, hn5⟩ : ∃ n, L.types.length = n := ⟨_, rfl⟩
 rw [hn1] at e1
 rw [hn2] at e2
 rw [hn3] at e3
 rw [hn4] at e4
 rw [hn5] at e5
 have hv : L.vals.toArray = #[.slice A1 n1 c1, .slice A2 n2 c2, .slice A3 n3 c3, .slice A4 n4 c4, .slice A5 n5 c5] := by unfold CoL.vals; rw [e1, e2, e3, e4, e5]
 have HS := Lib.hid (fun W (hb : Below w.heap.size w W) => sizeCode_c L W (h.grow hb) hB)
 rw [hv] at HS ⊢
 obtain ⟨g0, hg0⟩ : ∃ x, w.heap.size = x := ⟨_, rfl⟩
 obtain ⟨W1, hW1⟩ : ∃ W1, w.alloc (.cells #[.slice A1 n1 c1, .slice A2 n2 c2, .slice A3 n3 c3, .slice A4 n4 c4, .slice A5 n5 c5] 27) = W1 := ⟨_, rfl⟩
 have hb1 : Below w.heap.size w W1 := by rw [<- hW1]; exact bal b0 _
 have k1 : Blk W1 g0 27 #[.slice A1 n1 c1, .slice A2 n2 c2, .slice A3 n3 c3, .slice A4 n4 c4, .slice A5 n5 c5] := by rw [<- hW1, <- hg0]; exact Blk.new w _ _
 have HK := Lib.hid (And.intro hb1 k1)
 clear h hB hv e1 e2 e3 e4 e5 s1 s2 s3 s4 s5 hn1 hn2 hn3 hn4 hn5 hc1 hc2 hc3 hc4 hc5 hd1 hd2 hd3 hd4 hd5 hb1 k1
 go_enter Tryz.func6, Tryz.ntmps6
 go_upto_region 1 with fail
 clear hW1 hg0
 go_wp2_with (refine wpList_load_row_g (by kernel_rfl) 27 (.tmp 1) rfl g0 rfl 27 #[.slice A1 n1 c1, .slice A2 n2 c2, .slice A3 n3 c3, .slice A4 n4 c4, .slice A5 n5 c5] (0, 0) _ HK.out.2 Tryz.underlying27 rfl (by kernel_rfl) ?_)
 refine (HS.out _ HK.out.1).mono ?_
 rintro e w2 ⟨N, rfl, hN, hs, hb2⟩
 have HT := Lib.hid (And.intro hs hb2)
 clear hs hb2
 go_wp2_with fail
 refine (long_c _ _).mono ?_
 rintro e w3 ⟨rfl, rfl⟩
 by_cases hl : (2147483647 : Int) < N
 ·
  rw [decide_eq_true hl]
  go_wp2_with fail
  go_ret
  exact ⟨true, rfl, (fun h => by cases h), bl HK.out.1 HT.out.2⟩
 ·
  rw [decide_eq_false hl]
  have k2 := HK.out.2.below HT.out.2 HK.out.2.lt
  go_wp2_with (refine wpList_load_row_g (by kernel_rfl) 27 (.tmp 1) rfl g0 rfl 27 #[.slice A1 n1 c1, .slice A2 n2 c2, .slice A3 n3 c3, .slice A4 n4 c4, .slice A5 n5 c5] (0, 0) _ k2 Tryz.underlying27 rfl (by kernel_rfl) ?_)
  refine (HS.out _ (bl HK.out.1 HT.out.2)).mono ?_
  rintro e w3 ⟨M, rfl, hM, hs, hb3⟩
  have HU := Lib.hid (And.intro hs hb3)
  clear hs hb3
  go_wp2_with fail
  go_ret
  refine ⟨_, rfl, fun h => ?_, bl (bl HK.out.1 HT.out.2) HU.out.2⟩
  have h1 := of_decide_eq_false h
  have h2 := HU.out.1 (by omega)
  omega
end Go.Proofs.YtobplngonkdbpaaGreatDoor.D
/- CgL -/
namespace Go.Proofs.YtobplngonkdbpaaGreatDoor.D
open Go.RowKit
open Go.Proofs.YtobplngonkdbpaaGreatDoor.B
set_option linter.unusedVariables false
set_option linter.unusedSimpArgs false
def smallC : Cod := ⟨[⟨[[62, 105, 105]], [105], [98], [⟨4, 1, 0⟩, ⟨99, -3, 0⟩]⟩], [⟨[105], [63], [⟨2, 0, true, 105, 0, 0, 0⟩]⟩], [7], [[97, 34, 10]], []⟩
theorem bk {w : World} {n : Nat} (h : w.heap.size = n) (t : TypeId) (cs : Array Value) : Blk (w.alloc (.cells cs t)) n t cs := by rw [<- h]; exact Blk.new w t cs
theorem sa {w : World} {n : Nat} (h : w.heap.size = n) (o : Obj) : (w.alloc o).heap.size = n + 1 := by rw [World.size_alloc, h]
theorem rd_blk {w : World} {g : Nat} {t : TypeId} {cs : Array Value} (h : Blk w g t cs) (n sz : Nat) (hs : cs.size = n * sz) (hn : n <= 1000) : Rd w sz (.slice (some ⟨g, 0, none⟩) n n) n cs.toList := by
 refine ⟨_, _, rfl, Nat.le_refl _, by unfold maxLen; omega, by simpa using hs, fun b hb => ?_, .inr ⟨g, rfl, fun j x hx => ?_⟩⟩
 · cases hb; exact h.lt
 · rw [h.cell]; simpa using hx
def smallL (g : Nat) : CoL :=
 ⟨[⟨.slice (some ⟨g + 1, 0, none⟩) 1 1, ⟨[[62, 105, 105]], [105], [98], [⟨4, 1, 0⟩, ⟨99, -3, 0⟩]⟩, .slice (some ⟨g + 1 + 1, 0, none⟩) 2 2⟩],
  [⟨⟨[105], [63], [⟨2, 0, true, 105, 0, 0, 0⟩]⟩, .slice (some ⟨g + 1 + 1 + 1 + 1, 0, none⟩) 1 1⟩], [7], [[97, 34, 10]], [],
  .slice (some ⟨g + 1 + 1 + 1 + 1 + 1 + 1, 0, none⟩) 1 1, .slice (some ⟨g + 1 + 1 + 1 + 1 + 1 + 1 + 1, 0, none⟩) 1 1, .slice (some ⟨g + 1 + 1 + 1 + 1 + 1 + 1 + 1 + 1, 0, none⟩) 1 1, .slice (some ⟨g + 1 + 1 + 1 + 1 + 1 + 1 + 1 + 1 + 1, 0, none⟩) 1 1, .slice none 0 0⟩
theorem rd_none (w : World) (sz : Nat) : Rd w sz (.slice none 0 0) 0 [] := Rd.of_own (World.ownsRow_nil w 0 0 sz)
set_option maxRecDepth 100000 in
set_option maxHeartbeats 4000000 in
theorem small_c (w : World) :
  Calls Tryz.prog 26 #[] w fun e w' => ∃ L : CoL, e = .returned (.agg L.vals.toArray) /\ L.code = smallC /\ CR w' L /\ Below w.heap.size w w' := by
 obtain ⟨g, hg⟩ : ∃ g, w.heap.size = g := ⟨_, rfl⟩
 go_enter Tryz.func26, Tryz.ntmps26
 go_wp2_with fail
 rw [hg]
 refine bodyPost_ret (results_cell_row rfl _ _ g 27 (smallL g).vals.toArray (0, 0) _ rfl ((((((((((bk hg _ _).alloc _).alloc _).alloc _).alloc _).alloc _).alloc _).alloc _).alloc _).alloc _) Tryz.underlying27 rfl (by kernel_rfl)) rfl ⟨smallL g, rfl, rfl, ?_, ?_⟩
 ·
  refine ⟨?_, ?_, ?_, ?_, rd_rs (rd_none _ 1), ?_, ?_, ?_⟩
  · exact rd_rs <| rd_blk ((((bk (sa (sa (sa (sa (sa (sa hg _) _) _) _) _) _) _ _).alloc _).alloc _).alloc _) 1 4 rfl (by omega)
  · exact rd_rs <| rd_blk (((bk (sa (sa (sa (sa (sa (sa (sa hg _) _) _) _) _) _) _) _ _).alloc _).alloc _) 1 3 rfl (by omega)
  · exact rd_rs <| rd_blk ((bk (sa (sa (sa (sa (sa (sa (sa (sa hg _) _) _) _) _) _) _) _) _ _).alloc _) 1 1 rfl (by omega)
  · exact rd_rs <| rd_blk (bk (sa (sa (sa (sa (sa (sa (sa (sa (sa hg _) _) _) _) _) _) _) _) _) _ _) 1 1 rfl (by omega)
  ·
   intro g' hg'
   obtain rfl : g' = _ := List.mem_singleton.1 hg'
   exact rd_rs <| rd_blk (((((((((bk (sa hg _) _ _).alloc _).alloc _).alloc _).alloc _).alloc _).alloc _).alloc _).alloc _) 1 1 rfl (by omega)
  ·
   intro g' hg'
   obtain rfl : g' = _ := List.mem_singleton.1 hg'
   exact rd_rs <| rd_blk ((((((((bk (sa (sa hg _) _) _ _).alloc _).alloc _).alloc _).alloc _).alloc _).alloc _).alloc _) 2 3 rfl (by omega)
  ·
   intro g' hg'
   obtain rfl : g' = _ := List.mem_singleton.1 hg'
   exact rd_rs <| rd_blk ((((((bk (sa (sa (sa (sa hg _) _) _) _) _ _).alloc _).alloc _).alloc _).alloc _).alloc _) 1 7 rfl (by omega)
 ·
  rw [<- hg]
  exact bal (bal (bal (bal (bal (bal (bal (bal (bal (bal b0 _) _) _) _) _) _) _) _) _) _
end Go.Proofs.YtobplngonkdbpaaGreatDoor.D
/- CgM -/
namespace Go.Proofs.YtobplngonkdbpaaGreatDoor.D
open Go.RowKit
open Go.Proofs.YtobplngonkdbpaaGreatDoor.B
set_option linter.unusedVariables false
set_option linter.unusedSimpArgs false
theorem show_small : showV smallC = [110, 117, 109, 32, 55, 10, 116, 101, 120, 116, 32, 34, 97, 92, 120, 50, 50, 92, 120, 48, 97, 34, 10, 99, 97, 115, 116, 32, 34, 105, 34, 32, 34, 63, 34, 32, 50, 46, 48, 46, 49, 46, 49, 48, 53, 46, 48, 46, 48, 46, 48, 10, 102, 110, 32, 34, 62, 105, 105, 34, 32, 58, 32, 34, 105, 34, 32, 34, 98, 34, 10, 32, 108, 111, 99, 97, 108, 32, 49, 32, 48, 10, 32, 35, 57, 57, 32, 45, 51, 32, 48, 10] := by decide +kernel
theorem small_ok : smallC.ok := by
 refine ⟨fun f hf i hi => ?_, fun f hf i hi => ?_, fun n hn => ?_⟩
 ·
  obtain rfl := List.mem_singleton.1 hf
  simp only [List.mem_cons, List.not_mem_nil, or_false] at hi
  rcases hi with rfl | rfl <;> (unfold In.ok inR; decide)
 ·
  obtain rfl := List.mem_singleton.1 hf
  obtain rfl := List.mem_singleton.1 hi
  unfold Nd.ok inR; decide
 ·
  obtain rfl := List.mem_singleton.1 hn
  unfold inR; decide
theorem read_bad : readV [110, 117, 109, 32, 48, 55, 10] = (none, 1) := by
 have h1 : lineC [110, 117, 109, 32, 48, 55, 10] = some ([110, 117, 109, 32, 48, 55], []) := by decide
 have h2 : cutW [110, 117, 109, 32, 48, 55] = some [[110, 117, 109], [48, 55]] := by decide +kernel
 have h3 : numV [48, 55] = none := by decide +kernel
 have h4 : lineV [110, 117, 109, 32, 48, 55] = none := by
  have h5 : rdItem [[110, 117, 109], [48, 55]] = Option.map Item.num (numV [48, 55]) := by unfold rdItem; exact if_pos (by decide)
  unfold lineV; rw [h2]
  exact h5.trans (by rw [h3]; rfl)
 unfold readV
 rw [runV_some h1]
 unfold stepV
 rw [h4]
theorem showS_c (L : CoL) (w : World) (hc : L.code = smallC) (hCR : CR w L) (hg : Gl w) : Calls Tryz.prog 9 #[.agg L.vals.toArray] w fun e w' => e = .returned (strV (showV smallC)) /\ Below w.heap.size w w' := by
 obtain ⟨-, hb2⟩ := small_bounds (L := L) (by rw [hc]; decide)
 have hB := (small_bounds (L := L) (by rw [hc]; decide)).1
 rw [<- hc]
 refine show_c L w (by rw [hc]; exact small_ok) (by rw [hc, show_small]; decide) hb2 (fun g hg => ?_) (fun g hg => ?_) hCR hg
 · have := hB.fe g hg; omega
 · have := hB.co g hg; omega
theorem heightS_c (L : CoL) (w : World) (hc : L.code = smallC) (hCR : CR w L) : Calls Tryz.prog 13 #[.agg L.vals.toArray] w fun e w' => e = .returned (.int .i64 1) /\ Below w.heap.size w w' := by
 have hB := (small_bounds (L := L) (by rw [hc]; decide)).1
 have h := height_c L w (by rw [hc]; exact small_ok) (fun g hg => by have := hB.co g hg; omega) hCR
 rw [hc, show heV smallC = 1 by decide +kernel] at h
 exact h
theorem sizeS_c (L : CoL) (w : World) (hc : L.code = smallC) (hCR : CR w L) : Calls Tryz.prog 15 #[.agg L.vals.toArray] w fun e w' => e = .returned (.int .i64 2) /\ Below w.heap.size w w' := by
 have h := size_c L w (by rw [hc]; decide) hCR
 rw [hc, show szV smallC = 2 by decide +kernel] at h
 exact h
theorem pend_c (w : World) : Calls Tryz.prog 11 #[.int .i8 23] w fun e w' => e = .returned (.string ⟨#[112, 101, 110, 100]⟩) /\ Below w.heap.size w w' := by
 have h := name_c 23 w (by decide) (by decide)
 rw [show nameV 23 = [112, 101, 110, 100] by decide +kernel] at h
 exact h
theorem exec_load_row {P : Program} {a : Act} {w : World} {d : Option Tmp} {ty2 : TypeId} {pos : String} {af : Array Edge} {gd : Option (Nat × Bool)} (ty : TypeId) (x : Operand) (g : Nat) (hx : a.eval x = .pointer (some ⟨g, 0, none⟩)) (t : TypeId) (cs : Array Value) (fr : Nat × Nat) (dd : TypeDesc) (hg : w.heap[g]? = some (.cells cs t fr))
  (hu : P.underlying ty = some dd) (hd : (match dd with | .struct _ | .array _ _ => true | _ => false) = true) (hi : (P.info? ty).map (·.size) = some cs.size) :
  (execOp a.eval ⟨d, .load ty x, ty2, pos, af, gd⟩).run P w = .ok (.value (.agg cs)) w := by
 unfold execOp
 simp only [hx, Instr.loadAt, Instr.sureAddr, Sem.run_bind, Sem.run_pure, Result.andThen_ok, run_loadVar_row w g t ty cs fr dd hg hu hd hi]
theorem own_vals {w : World} {base : Nat} {L : CoL} (h : Own w base L.rws) : ∃ A1 c1 A2 c2 A3 c3 A4 c4 A5 c5, L.vals.toArray = #[.slice A1 L.fns.length c1, .slice A2 L.casts.length c2, .slice A3 L.nums.length c3, .slice A4 L.texts.length c4, .slice A5 L.types.length c5] := by
 obtain ⟨A1, c1, e1, _⟩ := own_shape (h.own (rowF L) (rowF_in L))
 obtain ⟨A2, c2, e2, _⟩ := own_shape (h.own (rowC L) (rowC_in L))
 obtain ⟨A3, c3, e3, _⟩ := own_shape (h.own (rowN L) (rowN_in L))
 obtain ⟨A4, c4, e4, _⟩ := own_shape (h.own (rowT L) (rowT_in L))
 obtain ⟨A5, c5, e5, _⟩ := own_shape (h.own (rowY L) (rowY_in L))
 have e1' : L.fv = .slice A1 L.fns.length c1 := e1
 have e2' : L.cv = .slice A2 L.casts.length c2 := e2
 have e3' : L.nv = .slice A3 L.nums.length c3 := e3
 have e4' : L.tv = .slice A4 L.texts.length c4 := e4
 have e5' : L.yv = .slice A5 L.types.length c5 := e5
 exact ⟨A1, c1, A2, c2, A3, c3, A4, c4, A5, c5, by unfold CoL.vals; rw [e1', e2', e3', e4', e5']⟩
set_option maxRecDepth 100000 in
set_option maxHeartbeats 8000000 in
theorem lives_c (w : World) (hg : Gl w) :
  Calls Tryz.prog 7 #[] w fun e w' => e = .returned (.bool true) /\ Below w.heap.size w w' := by
 have HG := Lib.hid (fun W (hb : Below w.heap.size w W) => hg.on hb)
 clear hg
 obtain ⟨X, hX⟩ : ∃ X, showV smallC = X := ⟨_, rfl⟩
 have hw : ([110, 117, 109, 32, 55, 10, 116, 101, 120, 116, 32, 34, 97, 92, 120, 50, 50, 92, 120, 48, 97, 34, 10, 99, 97, 115, 116, 32, 34, 105, 34, 32, 34, 63, 34, 32, 50, 46, 48, 46, 49, 46, 49, 48, 53, 46] : List UInt8).append [48, 46, 48, 46, 48, 10, 102, 110, 32, 34, 62, 105, 105, 34, 32, 58, 32, 34, 105, 34, 32, 34, 98, 34, 10, 32, 108, 111, 99, 97, 108, 32, 49, 32, 48, 10, 32, 35, 57, 57, 32, 45, 51, 32, 48, 10] = X := by rw [<- hX, show_small]; rfl
 dsimp only at hw
 have hlX : X.length <= 1073741824 := by rw [<- hX, show_small]; decide
 obtain ⟨k0, hrd⟩ := read_show small_ok
 rw [hX] at hrd
 go_enter Tryz.func7, Tryz.ntmps7
 go_upto_region 2 with fail
 rw [hw]
 have HRX := Lib.hid (And.intro hX hrd)
 clear hw hX hrd
 go_wp2_with fail
 refine (read_c X _ hlX (HG.out _ b0)).mono ?_
 rintro e w1 ⟨hb1, ⟨k, c, L, hr1, hc, rfl, how⟩ | ⟨n, hr1, _⟩⟩
 rotate_left
 · rw [HRX.out.2] at hr1; cases hr1
 obtain rfl : smallC = c := by
  rw [HRX.out.2] at hr1
  injection hr1 with h1
  injection h1 with h1
  injection h1
 obtain ⟨A1, c1, A2, c2, A3, c3, A4, c4, A5, c5, hv⟩ := own_vals how
 obtain ⟨n1, hn1⟩ : ∃ n, L.fns.length = n := ⟨_, rfl⟩
 obtain ⟨n2, hn2⟩ : ∃ n, L.casts.length = n := ⟨_, rfl⟩
 obtain ⟨n3, hn3⟩ : ∃ n, L.nums.length = n := ⟨_, rfl⟩
 obtain ⟨n4, hn4⟩ : ∃ n, L.texts.length = n := ⟨_, rfl⟩
 obtain ⟨n5, hn5⟩ : ∃ n, L.types.length = n := ⟨_, rfl⟩
 rw [hn1, hn2, hn3, hn4, hn5] at hv
 have hcr := CR.of_own how.own
 have HEQ := Lib.hid (fun W (L' : CoL) (hb : Below w1.heap.size w1 W) (hc' : L'.code = smallC) (h' : CR W L') => eqCode_c L L' W (hcr.grow hb) h' (hc.trans hc'.symm))
 rw [hv] at HEQ ⊢
 obtain ⟨g2, hg2⟩ : ∃ x, w1.heap.size = x := ⟨_, rfl⟩
 obtain ⟨W2, hW2⟩ : ∃ W2, w1.alloc (.cells #[.slice A1 n1 c1, .slice A2 n2 c2, .slice A3 n3 c3, .slice A4 n4 c4, .slice A5 n5 c5] 27) = W2 := ⟨_, rfl⟩
 have hb2 : Below w1.heap.size w1 W2 := by rw [<- hW2]; exact bal b0 _
 have k2 : Blk W2 g2 27 #[.slice A1 n1 c1, .slice A2 n2 c2, .slice A3 n3 c3, .slice A4 n4 c4, .slice A5 n5 c5] := by rw [<- hW2, <- hg2]; exact Blk.new w1 _ _
 have HK := Lib.hid (And.intro hb1 (And.intro hb2 k2))
 clear hb1 hb2 k2 hn1 hn2 hn3 hn4 hn5 hcr hr1 how hv hlX
 go_upto_region 3 with fail
 clear hW2 hg2
 go_wp2_with fail
 refine (read_c [110, 117, 109, 32, 48, 55, 10] _ (by decide) (HG.out _ (bl HK.out.1 HK.out.2.1))).mono ?_
 rintro e w3 ⟨hb3, ⟨k, c, L', hr3, _⟩ | ⟨n, hr3, rfl⟩⟩
 · rw [read_bad] at hr3; cases hr3
 obtain rfl : 1 = n := by
  rw [read_bad] at hr3
  injection hr3
 unfold nilV
 go_upto_region 4 with fail
 obtain ⟨W4, hW4⟩ : ∃ W4, w3.alloc (.cells #[.slice none 0 0, .slice none 0 0, .slice none 0 0, .slice none 0 0, .slice none 0 0] 27) = W4 := ⟨_, rfl⟩
 have hb4 : Below w3.heap.size w3 W4 := by rw [<- hW4]; exact bal b0 _
 have HK4 := Lib.hid (And.intro (bl (bl HK.out.1 HK.out.2.1) (bl hb3 hb4)) (And.intro (bl HK.out.2.1 (bl hb3 hb4)) (HK.out.2.2.below (bl hb3 hb4) HK.out.2.2.lt)))
 clear hb3 hb4 hr3
 rw [hW4]
 clear hW4
 refine wp_region_held_drew (S := (fun W' => Below W4.heap.size W4 W' /\ Blk W' g2 27 #[.slice A1 n1 c1, .slice A2 n2 c2, .slice A3 n3 c3, .slice A4 n4 c4, .slice A5 n5 c5])) (by kernel_rfl) ?ss1 (fun hHeld => ?rr1)
 case ss1 => (try dsimp only); exact ⟨bdr b0 1, HK4.out.2.2.drewN 1⟩
 refine rgt 2 21 rfl rfl hHeld ?_
 try simp only [Act.put, rg1, rg2, rg3]
 refine rgc 0 (some 19) rfl (fun K hK => ?_)
 go_simp
 ((refine (small_c _).mono ?_); rintro e w5 ⟨L5, rfl, hc5, hcr5, hb5⟩; have H5 := Lib.hid (And.intro hc5 hcr5); clear hc5 hcr5)
 refine hK.out _ _ ?ss3 (fun hHeld2 => ?rr3)
 case ss3 => (try dsimp only); exact ⟨bl hHeld.1 hb5, hHeld.2.below hb5 hHeld.2.lt⟩
 clear hK K
 clear hHeld
 have hHeld := hHeld2
 clear hHeld2
 try simp only [Act.put, rg1, rg2, rg3]
 refine rgc 1 (some 20) rfl (fun K hK => ?_)
 go_simp
 ((refine (showS_c L5 _ H5.out.1 H5.out.2 (HG.out _ (bl HK4.out.1 hHeld.1))).mono ?_); rintro e w6 ⟨rfl, hb6⟩; rw [HRX.out.1]; unfold strV)
 refine hK.out _ _ ?ss4 (fun hHeld2 => ?rr4)
 case ss4 => (try dsimp only); exact ⟨bl hHeld.1 hb6, hHeld.2.below hb6 hHeld.2.lt⟩
 clear hK K
 clear hHeld
 have hHeld := hHeld2
 clear hHeld2
 try simp only [Act.put, rg1, rg2, rg3]
 refine rgt 3 22 rfl rfl hHeld ?_
 try simp only [Act.put, rg1, rg2, rg3]
 refine rgt 4 23 rfl rfl hHeld ?_
 try simp only [Act.put, rg1, rg2, rg3]
 refine rgt 5 24 rfl rfl hHeld ?_
 try simp only [Act.put, rg1, rg2, rg3]
 refine rgt 6 25 rfl rfl hHeld ?_
 try simp only [Act.put, rg1, rg2, rg3]
 refine rgt 7 26 rfl rfl hHeld ?_
 try simp only [Act.put, rg1, rg2, rg3]
 refine rgt 8 27 rfl rfl hHeld ?_
 try simp only [Act.put, rg1, rg2, rg3]
 refine rgt 9 28 rfl rfl hHeld ?_ (by intro wq hq; (try dsimp only at hq); exact exec_load_row _ _ g2 rfl _ #[.slice A1 n1 c1, .slice A2 n2 c2, .slice A3 n3 c3, .slice A4 n4 c4, .slice A5 n5 c5] (0, 0) _ hq.2 Tryz.underlying27 rfl (by kernel_rfl))
 try simp only [Act.put, rg1, rg2, rg3]
 refine rgc 10 (some 29) rfl (fun K hK => ?_)
 go_simp
 ((refine (small_c _).mono ?_); rintro e w7 ⟨L7, rfl, hc7, hcr7, hb7⟩; have H7 := Lib.hid (And.intro hc7 hcr7); clear hc7 hcr7)
 refine hK.out _ _ ?ss12 (fun hHeld2 => ?rr12)
 case ss12 => (try dsimp only); exact ⟨bl hHeld.1 hb7, hHeld.2.below hb7 hHeld.2.lt⟩
 clear hK K
 clear hHeld
 have hHeld := hHeld2
 clear hHeld2
 try simp only [Act.put, rg1, rg2, rg3]
 refine rgc 11 (some 30) rfl (fun K hK => ?_)
 go_simp
 ((refine (HEQ.out _ L7 (bl HK4.out.2.1 hHeld.1) H7.out.1 H7.out.2).mono ?_); rintro e w8 ⟨rfl, hb8⟩)
 refine hK.out _ _ ?ss13 (fun hHeld2 => ?rr13)
 case ss13 => (try dsimp only); exact ⟨bl hHeld.1 hb8, hHeld.2.below hb8 hHeld.2.lt⟩
 clear hK K
 clear hHeld
 have hHeld := hHeld2
 clear hHeld2
 try simp only [Act.put, rg1, rg2, rg3]
 refine rgt 12 31 rfl rfl hHeld ?_
 try simp only [Act.put, rg1, rg2, rg3]
 refine rgt 13 32 rfl rfl hHeld ?_
 try simp only [Act.put, rg1, rg2, rg3]
 refine rgt 14 33 rfl rfl hHeld ?_
 try simp only [Act.put, rg1, rg2, rg3]
 refine rgt 15 34 rfl rfl hHeld ?_
 try simp only [Act.put, rg1, rg2, rg3]
 refine rgt 16 35 rfl rfl hHeld ?_
 try simp only [Act.put, rg1, rg2, rg3]
 refine rgt 17 36 rfl rfl hHeld ?_
 try simp only [Act.put, rg1, rg2, rg3]
 refine rgt 18 37 rfl rfl hHeld ?_
 try simp only [Act.put, rg1, rg2, rg3]
 refine rgt 19 38 rfl rfl hHeld ?_
 try simp only [Act.put, rg1, rg2, rg3]
 refine rgt 20 39 rfl rfl hHeld ?_
 try simp only [Act.put, rg1, rg2, rg3]
 refine rgt 21 40 rfl rfl hHeld ?_
 try simp only [Act.put, rg1, rg2, rg3]
 refine rgc 22 (some 41) rfl (fun K hK => ?_)
 go_simp
 ((refine (pend_c _).mono ?_); rintro e w9 ⟨rfl, hb9⟩)
 refine hK.out _ _ ?ss24 (fun hHeld2 => ?rr24)
 case ss24 => (try dsimp only); exact ⟨bl hHeld.1 hb9, hHeld.2.below hb9 hHeld.2.lt⟩
 clear hK K
 clear hHeld
 have hHeld := hHeld2
 clear hHeld2
 try simp only [Act.put, rg1, rg2, rg3]
 refine rgt 23 42 rfl rfl hHeld ?_
 try simp only [Act.put, rg1, rg2, rg3]
 refine rgt 24 43 rfl rfl hHeld ?_
 try simp only [Act.put, rg1, rg2, rg3]
 refine rgt 25 44 rfl rfl hHeld ?_
 try simp only [Act.put, rg1, rg2, rg3]
 refine rgc 26 (some 45) rfl (fun K hK => ?_)
 go_simp
 ((refine (small_c _).mono ?_); rintro e w10 ⟨L10, rfl, hc10, hcr10, hb10⟩; have H10 := Lib.hid (And.intro hc10 hcr10); clear hc10 hcr10)
 refine hK.out _ _ ?ss28 (fun hHeld2 => ?rr28)
 case ss28 => (try dsimp only); exact ⟨bl hHeld.1 hb10, hHeld.2.below hb10 hHeld.2.lt⟩
 clear hK K
 clear hHeld
 have hHeld := hHeld2
 clear hHeld2
 try simp only [Act.put, rg1, rg2, rg3]
 refine rgc 27 (some 46) rfl (fun K hK => ?_)
 go_simp
 ((refine (heightS_c L10 _ H10.out.1 H10.out.2).mono ?_); rintro e w11 ⟨rfl, hb11⟩)
 refine hK.out _ _ ?ss29 (fun hHeld2 => ?rr29)
 case ss29 => (try dsimp only); exact ⟨bl hHeld.1 hb11, hHeld.2.below hb11 hHeld.2.lt⟩
 clear hK K
 clear hHeld
 have hHeld := hHeld2
 clear hHeld2
 try simp only [Act.put, rg1, rg2, rg3]
 refine rgt 28 47 rfl rfl hHeld ?_
 try simp only [Act.put, rg1, rg2, rg3]
 refine rgt 29 48 rfl rfl hHeld ?_
 try simp only [Act.put, rg1, rg2, rg3]
 refine rgt 30 49 rfl rfl hHeld ?_
 try simp only [Act.put, rg1, rg2, rg3]
 refine rgc 31 (some 50) rfl (fun K hK => ?_)
 go_simp
 ((refine (small_c _).mono ?_); rintro e w12 ⟨L12, rfl, hc12, hcr12, hb12⟩; have H12 := Lib.hid (And.intro hc12 hcr12); clear hc12 hcr12)
 refine hK.out _ _ ?ss33 (fun hHeld2 => ?rr33)
 case ss33 => (try dsimp only); exact ⟨bl hHeld.1 hb12, hHeld.2.below hb12 hHeld.2.lt⟩
 clear hK K
 clear hHeld
 have hHeld := hHeld2
 clear hHeld2
 try simp only [Act.put, rg1, rg2, rg3]
 refine rgc 32 (some 51) rfl (fun K hK => ?_)
 go_simp
 ((refine (sizeS_c L12 _ H12.out.1 H12.out.2).mono ?_); rintro e w13 ⟨rfl, hb13⟩)
 refine hK.out _ _ ?ss34 (fun hHeld2 => ?rr34)
 case ss34 => (try dsimp only); exact ⟨bl hHeld.1 hb13, hHeld.2.below hb13 hHeld.2.lt⟩
 clear hK K
 clear hHeld
 have hHeld := hHeld2
 clear hHeld2
 try simp only [Act.put, rg1, rg2, rg3]
 refine rgt 33 52 rfl rfl hHeld ?_
 try simp only [Act.put, rg1, rg2, rg3]
 refine rgt 34 53 rfl rfl hHeld ?_
 try simp only [Act.put, rg1, rg2, rg3]
 refine rgt 35 0 rfl rfl hHeld ?_
 try simp only [Act.put, rg1, rg2, rg3]
 refine wpAnyH_done (by kernel_rfl) ?_ _
 go_wp2_with fail
 go_ret
 exact ⟨rfl, bl HK4.out.1 hHeld.1⟩
end Go.Proofs.YtobplngonkdbpaaGreatDoor.D
/- AnI -/
namespace Go.Proofs.YtobplngonkdbpaaGreatDoor.D
open Go.RowKit
open Go.Proofs.YtobplngonkdbpaaGreatDoor.B
set_option linter.unusedVariables false
set_option linter.unusedSimpArgs false
end Go.Proofs.YtobplngonkdbpaaGreatDoor.D
/- AnJ -/
namespace Go.Proofs.YtobplngonkdbpaaGreatDoor.D
open Go.RowKit
open Go.Proofs.YtobplngonkdbpaaGreatDoor.B
set_option linter.unusedVariables false
set_option linter.unusedSimpArgs false
end Go.Proofs.YtobplngonkdbpaaGreatDoor.D
/- AnK -/
namespace Go.Proofs.YtobplngonkdbpaaGreatDoor.D
open Go.RowKit
open Go.Proofs.YtobplngonkdbpaaGreatDoor.B
set_option linter.unusedVariables false
set_option linter.unusedSimpArgs false
end Go.Proofs.YtobplngonkdbpaaGreatDoor.D
/- AnL -/
namespace Go.Proofs.YtobplngonkdbpaaGreatDoor.D
open Go.RowKit
open Go.Proofs.YtobplngonkdbpaaGreatDoor.B
set_option linter.unusedVariables false
set_option linter.unusedSimpArgs false
end Go.Proofs.YtobplngonkdbpaaGreatDoor.D
/- AnM -/
namespace Go.Proofs.YtobplngonkdbpaaGreatDoor.D
open Go.RowKit
open Go.Proofs.YtobplngonkdbpaaGreatDoor.B
set_option linter.unusedVariables false
set_option linter.unusedSimpArgs false
end Go.Proofs.YtobplngonkdbpaaGreatDoor.D
