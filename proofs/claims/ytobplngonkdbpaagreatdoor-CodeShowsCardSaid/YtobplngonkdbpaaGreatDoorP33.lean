/- Parts of this claim: AoC. -/
import Derived.Test.YtobplngonkdbpaaGreatDoorP32
import Derived.Test.YtobplngonkdbpaaGreatDoorP28
import Derived.Test.YtobplngonkdbpaaGreatDoorP25
set_option linter.unusedVariables false
set_option linter.unusedSimpArgs false
/- AoC -/
namespace Go.Proofs.YtobplngonkdbpaaGreatDoor.D
open Go.RowKit
open Go.Proofs.YtobplngonkdbpaaGreatDoor.B
set_option linter.unusedVariables false
set_option linter.unusedSimpArgs false
theorem showI_snoc (l : List Item) (it : Item) : showI (l ++ [it]) = showI l ++ (itemL it ++ [10]) := by simp [showI]
theorem showI_app (a b : List Item) : showI (a ++ b) = showI a ++ showI b := by simp [showI]
/-- How far a text has got: the items told, those to come. -/
def Tld (T P R : List Item) (out : Bs) : Prop := P ++ R = T /\ out = showI P
theorem Tld.room {T P R : List Item} {it : Item} {out : Bs} (h : Tld T P (it :: R) out) (hT : (showI T).length <= 140737488355327) : out.length + (itemL it).length + 1 <= 140737488355327 := by
 obtain ⟨h1, rfl⟩ := h
 rw [<- h1, show P ++ it :: R = (P ++ [it]) ++ R by simp, showI_app, List.length_append, showI_snoc] at hT
 simp only [List.length_append, List.length_cons, List.length_nil] at hT
 omega
theorem Tld.next {T P R : List Item} {it : Item} {out ln : Bs} (h : Tld T P (it :: R) out) (hl : itemL it ++ [10] = ln) : Tld T (P ++ [it]) R (out ++ ln) := by
 obtain ⟨h1, rfl⟩ := h
 exact ⟨by rw [<- h1]; simp, by rw [showI_snoc, hl]⟩
theorem ob_str {w0 W W1 W2 : World} {u v : Value} {b c : Bs} (h : OB w0 W u b) (h1 : Below W.heap.size W W1) (ho : W2.ownsRow w0.heap.size 5 1 v (b.length + (⟨c.toArray⟩ : ByteArray).size) (Lib.byteCells b ++ Lib.strCells ⟨c.toArray⟩)) (hg : W1.grownBy W2 u.ownBlock) : OB w0 W2 v (b ++ c) :=
 h.app h1 (by rw [str_size] at ho; exact ho) hg
theorem num_line (n : Int) : itemL (.num n) = [110, 117, 109, 32] ++ Lib.itoa n := by simp [itemL, itemWs, joinC, kNum]
theorem text_line (s : Bs) : itemL (.text s) = [116, 101, 120, 116, 32] ++ quoteL s := by simp [itemL, itemWs, joinC, kText]
theorem type_line (s : Bs) : itemL (.type s) = [116, 121, 112, 101, 32] ++ quoteL s := by simp [itemL, itemWs, joinC, kType]
set_option maxRecDepth 100000 in
set_option maxHeartbeats 8000000 in
theorem showA_any (L : CoL) (w : World) (hok : L.code.ok) (hT : (showV L.code).length <= 140737488355327) (htx : ∀ x, (x ∈ L.texts \/ x ∈ L.types \/ (∃ g ∈ L.fns, x ∈ g.f.env \/ x = g.f.param \/ x = g.f.res) \/ (∃ g ∈ L.casts, x = g.w.f \/ x = g.w.t)) -> x.length <= 1073741824)
  (hln : ∀ g, (g ∈ L.fns -> g.f.env.length <= 1048576)) (hCB : CB L) (hCR : CR w L) (hg : Gl w) :
  Calls Tryz.prog 10 #[.agg L.vals.toArray] w fun e w' => e = .returned (strV (showV L.code)) /\ Below w.heap.size w w' := by
 obtain ⟨i0, hi0, hz0, hz1, hz2⟩ := info_parts Bd.infoU8
 obtain ⟨A1, c1, e1, hc1, hd1, s1⟩ := hCR.f.sl
 obtain ⟨A2, c2, e2, hc2, hd2, s2⟩ := hCR.c.sl
 obtain ⟨A3, c3, e3, hc3, hd3, s3⟩ := hCR.n.sl
 obtain ⟨A4, c4, e4, hc4, hd4, s4⟩ := hCR.t.sl
 obtain ⟨A5, c5, e5, hc5, hd5, s5⟩ := hCR.y.sl
 obtain ⟨n1, hn1⟩ : ∃ n, L.fns.length = n := ⟨_, rfl⟩
 obtain ⟨n2, hn2⟩ : ∃ n, L.casts.length = n := ⟨_, rfl⟩
 obtain ⟨n3, hn3⟩ : ∃ n, L.nums.length = n := ⟨_, rfl⟩
 obtain ⟨n4, hn4⟩ : ∃ n, L.texts.length = n := ⟨_, rfl⟩
 obtain ⟨n5, hn5⟩ : ∃ n, L.types.length = n := ⟨_, rfl⟩
 rw [hn1] at e1 s1
 rw [hn2] at e2 s2
 rw [hn3] at e3 s3
 rw [hn4] at e4 s4
 rw [hn5] at e5 s5
 rw [show L.vals.toArray = #[.slice A1 n1 c1, .slice A2 n2 c2, .slice A3 n3 c3, .slice A4 n4 c4, .slice A5 n5 c5] by unfold CoL.vals; rw [e1, e2, e3, e4, e5]]
 obtain ⟨T, hTT⟩ : ∃ T, items L.code = T := ⟨_, rfl⟩
 have hTl : (showI T).length <= 140737488355327 := by rw [<- hTT]; exact hT
 have HTL := Lib.hid hTl
 have HT := Lib.hid (show L.nums.map Item.num ++ (L.texts.map Item.text ++ (L.types.map Item.type ++ (L.casts.map (fun g : WtL => Item.cast g.w.f g.w.t g.w.co) ++ L.fns.flatMap (fun g : FuL => fuItems g.f)))) = T by
  rw [<- hTT]; simp [items, CoL.code, List.flatMap_map, Function.comp_def])
 have HSH := Lib.hid (show showV L.code = showI T by rw [<- hTT]; rfl)
 have HCR := Lib.hid (fun W (hb : Below w.heap.size w W) => hCR.grow hb)
 have HG := Lib.hid (fun W (hb : Below w.heap.size w W) => hg.on hb)
 have HOK := Lib.hid hok
 have HTX := Lib.hid htx
 have HLN := Lib.hid hln
 have HLC := Lib.hid hCB
 have b1 : n1 <= 1073741824 := by rw [<- hn1]; exact hCB.f
 have b2 : n2 <= 1073741824 := by rw [<- hn2]; exact hCB.c
 have b3 : n3 <= 1073741824 := by rw [<- hn3]; exact hCB.n
 have b4 : n4 <= 1073741824 := by rw [<- hn4]; exact hCB.t
 have b5 : n5 <= 1073741824 := by rw [<- hn5]; exact hCB.y
 have HNN := Lib.hid (show L.fns.length = n1 /\ L.casts.length = n2 /\ L.nums.length = n3 /\ L.texts.length = n4 /\ L.types.length = n5 from ⟨hn1, hn2, hn3, hn4, hn5⟩)
 have HSL := Lib.hid (show (∀ W, Below w.heap.size w W -> Sl W W.heap.size 4 A1 n1 (L.fns.flatMap FuL.cells)) /\ (∀ W, Below w.heap.size w W -> Sl W W.heap.size 3 A2 n2 (L.casts.flatMap WtL.cells)) /\ (∀ W, Below w.heap.size w W -> Sl W W.heap.size 1 A3 n3 (numC L.nums)) /\ (∀ W, Below w.heap.size w W -> Sl W W.heap.size 1 A4 n4 (envC L.texts)) /\ (∀ W, Below w.heap.size w W -> Sl W W.heap.size 1 A5 n5 (envC L.types)) from
  ⟨fun W hb => (s1.below hb).more hb.size, fun W hb => (s2.below hb).more hb.size, fun W hb => (s3.below hb).more hb.size, fun W hb => (s4.below hb).more hb.size, fun W hb => (s5.below hb).more hb.size⟩)
 obtain ⟨g0, hg0⟩ : ∃ x, w.heap.size = x := ⟨_, rfl⟩
 obtain ⟨W1, hW1⟩ : ∃ W1, w.alloc (.cells #[.slice A1 n1 c1, .slice A2 n2 c2, .slice A3 n3 c3, .slice A4 n4 c4, .slice A5 n5 c5] 27) = W1 := ⟨_, rfl⟩
 have hb1 : Below w.heap.size w W1 := by rw [<- hW1]; exact bal b0 _
 have k1 : Blk W1 g0 27 #[.slice A1 n1 c1, .slice A2 n2 c2, .slice A3 n3 c3, .slice A4 n4 c4, .slice A5 n5 c5] := by rw [<- hW1, <- hg0]; exact Blk.new w _ _
 have HX := Lib.hid (show ∀ W, Below W1.heap.size W1 W -> Below w.heap.size w W /\ W.cell? ⟨g0, 0, none⟩ = some (.slice A1 n1 c1) /\ W.cell? ⟨g0, 1, none⟩ = some (.slice A2 n2 c2) /\ W.cell? ⟨g0, 2, none⟩ = some (.slice A3 n3 c3) /\ W.cell? ⟨g0, 3, none⟩ = some (.slice A4 n4 c4) /\ W.cell? ⟨g0, 4, none⟩ = some (.slice A5 n5 c5) from fun W hw => by
  have k := k1.below hw k1.lt
  exact ⟨bl hb1 hw, (k.cell 0).trans rfl, (k.cell 1).trans rfl, (k.cell 2).trans rfl, (k.cell 3).trans rfl, (k.cell 4).trans rfl⟩)
 obtain ⟨Z, hZ⟩ : ∃ Z, showV L.code = Z := ⟨_, rfl⟩
 rw [hZ] at HSH ⊢
 clear hCR hg hok hT htx hln hCB e1 e2 e3 e4 e5 s1 s2 s3 s4 s5 hn1 hn2 hn3 hn4 hn5 hb1 k1 hTT hTl hZ
 go_enter Tryz.func10, Tryz.ntmps10
 go_upto_region 2 with fail
 clear hW1 hg0
 go_wp2_with fail
 go_loopg [3, 4] n3 (fun g u i wr => ∃ (k : Nat) (P : List Item) (out : Bs), k <= n3 /\ g = n3 - k /\ i = .int .i64 k /\ Hid (OB W1 wr u out /\ Tld T P ((L.nums.drop k).map Item.num ++ (L.texts.map Item.text ++ (L.types.map Item.type ++ (L.casts.map (fun g : WtL => Item.cast g.w.f g.w.t g.w.co) ++ L.fns.flatMap (fun g : FuL => fuItems g.f))))) out))
 case atStart => exact ⟨0, [], [], by omega, rfl, rfl, Lib.hid ⟨OB.nil W1, by rw [<- HT.out]; exact ⟨rfl, rfl⟩⟩⟩
 case round =>
  obtain ⟨k, P, out, hk, rfl, rfl, HP⟩ := hrel
  obtain ⟨AV, cV, rfl, hcc1, hcc2⟩ := own_shape HP.out.1.1
  obtain ⟨hbw, x0, x1, x2, x3, x4⟩ := HX.out wr HP.out.1.2
  by_cases hlt : k < n3
  ·
   obtain ⟨x, hx⟩ : ∃ x, L.nums[k]? = some x := ⟨_, List.getElem?_eq_getElem (by rw [HNN.out.2.2.1]; exact hlt)⟩
   obtain ⟨bb, ob, rfl, hbb, hcell⟩ := (HSL.out.2.2.1 wr hbw).at_ (by omega)
   have d0 : wr.cell? ⟨bb, ob + k, none⟩ = some (.int .i64 x) := hcell k _ (by simp [numC, hx, strV])
   have hm := List.mem_of_getElem? hx
   have HCALL0 := numT_any x wr (HOK.out.2.2 x hm) (HG.out wr hbw)
   obtain ⟨v, hv⟩ : ∃ v, Lib.itoa x = v := ⟨_, rfl⟩
   have hvl : v.length <= 4294967298 := by rw [<- hv]; have := itoa_len (HOK.out.2.2 x hm); omega
   rw [hv] at HCALL0
   have HCL := Lib.hid HCALL0
   unfold strV at HCL
   obtain ⟨y1, hy1⟩ : ∃ y, ([110, 117, 109, 32] : Bs) ++ v = y := ⟨_, rfl⟩
   obtain ⟨LN, hLN⟩ : ∃ y, y1 ++ [10] = y := ⟨_, rfl⟩
   have m1 : y1.length = 4 + v.length := by rw [<- hy1, List.length_append]; rfl
   have m2 : LN.length = y1.length + 1 := by rw [<- hLN, List.length_append]; rfl
   have t1 := fun W => str_add (P := Tryz.prog) hy1 (by show 4 + v.length <= _; omega) W
   have t2 := fun W => str_add (P := Tryz.prog) hLN (by show y1.length + 1 <= _; omega) W
   have hd : L.nums.drop k = x :: L.nums.drop (k + 1) := by
    rw [List.drop_eq_getElem_cons (List.getElem?_eq_some_iff.1 hx).1, (List.getElem?_eq_some_iff.1 hx).2]
   have hpt := HP.out.2
   rw [hd, List.map_cons, List.cons_append] at hpt
   have hroom := hpt.room HTL.out
   have hit : itemL (Item.num x) ++ [10] = LN := by rw [num_line, hv, hy1, hLN]
   have hil : (itemL (Item.num x)).length + 1 = LN.length := by rw [<- hit, List.length_append]; rfl
   have HNX := Lib.hid (hpt.next hit)
   have hrm : out.length + LN.length <= 140737488355327 := by omega
   clear hx hbb hcell hm hv hy1 hLN m1 m2 hd hpt hit hil hroom HCALL0
   go_wp2_with fail
   (refine HCL.out.mono ?_); rintro e w4 ⟨rfl, hb4⟩
   have HB4 := Lib.hid hb4
   have hsz4 : W1.heap.size <= w4.heap.size := Nat.le_trans HP.out.1.2.size hb4.size
   clear hb4
   go_wp2_with (at_builtin; refine Lib.wpList_append_own_string _ rfl (.tmp 17) (.tmp 25) 71 9 rfl W1.heap.size 5 i0 Tryz.underlying71 Tryz.underlying9 hi0 hz0 hz1 hz2 _ _ _ rfl (HP.out.1.on HB4.out).1 ⟨LN.toArray⟩ rfl (by rw [str_size]; unfold maxLen; omega) (by rw [str_size]; omega) (by omega) ?_; intro v' w5 hown5 hgrow _; have HO5 := Lib.hid (ob_str (HP.out.1.on HB4.out) b0 hown5 hgrow); clear hown5 hgrow)
   go_roundg (n3 - (k + 1))
   case measure => omega
   case rel => exact ⟨k + 1, P ++ [Item.num x], out ++ LN, by omega, rfl, by go_num, Lib.hid ⟨HO5.out, HNX.out⟩⟩
  ·
   obtain rfl : k = n3 := by omega
   have HPN := Lib.hid (show OB W1 wr (.slice AV out.length cV) out /\ Tld T P ((L.texts.map Item.text ++ (L.types.map Item.type ++ (L.casts.map (fun g : WtL => Item.cast g.w.f g.w.t g.w.co) ++ L.fns.flatMap (fun g : FuL => fuItems g.f))))) out from ⟨HP.out.1, by
    have h := HP.out.2
    rw [List.drop_of_length_le (by rw [HNN.out.2.2.1]; exact Nat.le_refl _)] at h
    exact h⟩)
   clear HP hbw
   go_wp2_with fail
   go_loopg [3, 5] n4 (fun g u i wr => ∃ (k : Nat) (P : List Item) (out : Bs), k <= n4 /\ g = n4 - k /\ i = .int .i64 k /\ Hid (OB W1 wr u out /\ Tld T P ((L.texts.drop k).map Item.text ++ (L.types.map Item.type ++ (L.casts.map (fun g : WtL => Item.cast g.w.f g.w.t g.w.co) ++ L.fns.flatMap (fun g : FuL => fuItems g.f)))) out))
   case atStart => exact ⟨0, P, out, by omega, rfl, rfl, HPN⟩
   case round =>
    obtain ⟨k, P, out, hk, rfl, rfl, HP⟩ := hrel
    obtain ⟨AV, cV, rfl, hcc1, hcc2⟩ := own_shape HP.out.1.1
    obtain ⟨hbw, x0, x1, x2, x3, x4⟩ := HX.out wr HP.out.1.2
    by_cases hlt : k < n4
    ·
     obtain ⟨x, hx⟩ : ∃ x, L.texts[k]? = some x := ⟨_, List.getElem?_eq_getElem (by rw [HNN.out.2.2.2.1]; exact hlt)⟩
     obtain ⟨bb, ob, rfl, hbb, hcell⟩ := (HSL.out.2.2.2.1 wr hbw).at_ (by omega)
     have d0 : wr.cell? ⟨bb, ob + k, none⟩ = some (.string ⟨x.toArray⟩) := hcell k _ (by simp [envC, hx, strV])
     have hm := List.mem_of_getElem? hx
     have HCALL0 := quoted_any x wr (HTX.out x (.inl hm))
     obtain ⟨v, hv⟩ : ∃ v, quoteL x = v := ⟨_, rfl⟩
     have hvl : v.length <= 4294967298 := by rw [<- hv]; have := quote_len x; have := HTX.out x (.inl hm); omega
     rw [hv] at HCALL0
     have HCL := Lib.hid HCALL0
     unfold strV at HCL
     obtain ⟨y1, hy1⟩ : ∃ y, ([116, 101, 120, 116, 32] : Bs) ++ v = y := ⟨_, rfl⟩
     obtain ⟨LN, hLN⟩ : ∃ y, y1 ++ [10] = y := ⟨_, rfl⟩
     have m1 : y1.length = 5 + v.length := by rw [<- hy1, List.length_append]; rfl
     have m2 : LN.length = y1.length + 1 := by rw [<- hLN, List.length_append]; rfl
     have t1 := fun W => str_add (P := Tryz.prog) hy1 (by show 5 + v.length <= _; omega) W
     have t2 := fun W => str_add (P := Tryz.prog) hLN (by show y1.length + 1 <= _; omega) W
     have hd : L.texts.drop k = x :: L.texts.drop (k + 1) := by
      rw [List.drop_eq_getElem_cons (List.getElem?_eq_some_iff.1 hx).1, (List.getElem?_eq_some_iff.1 hx).2]
     have hpt := HP.out.2
     rw [hd, List.map_cons, List.cons_append] at hpt
     have hroom := hpt.room HTL.out
     have hit : itemL (Item.text x) ++ [10] = LN := by rw [text_line, hv, hy1, hLN]
     have hil : (itemL (Item.text x)).length + 1 = LN.length := by rw [<- hit, List.length_append]; rfl
     have HNX := Lib.hid (hpt.next hit)
     have hrm : out.length + LN.length <= 140737488355327 := by omega
     clear hx hbb hcell hm hv hy1 hLN m1 m2 hd hpt hit hil hroom HCALL0
     go_wp2_with fail
     (refine HCL.out.mono ?_); rintro e w4 ⟨rfl, hb4⟩
     have HB4 := Lib.hid hb4
     have hsz4 : W1.heap.size <= w4.heap.size := Nat.le_trans HP.out.1.2.size hb4.size
     clear hb4
     go_wp2_with (at_builtin; refine Lib.wpList_append_own_string _ rfl (.tmp 34) (.tmp 42) 71 9 rfl W1.heap.size 5 i0 Tryz.underlying71 Tryz.underlying9 hi0 hz0 hz1 hz2 _ _ _ rfl (HP.out.1.on HB4.out).1 ⟨LN.toArray⟩ rfl (by rw [str_size]; unfold maxLen; omega) (by rw [str_size]; omega) (by omega) ?_; intro v' w5 hown5 hgrow _; have HO5 := Lib.hid (ob_str (HP.out.1.on HB4.out) b0 hown5 hgrow); clear hown5 hgrow)
     go_roundg (n4 - (k + 1))
     case measure => omega
     case rel => exact ⟨k + 1, P ++ [Item.text x], out ++ LN, by omega, rfl, by go_num, Lib.hid ⟨HO5.out, HNX.out⟩⟩
    ·
     obtain rfl : k = n4 := by omega
     have HPN := Lib.hid (show OB W1 wr (.slice AV out.length cV) out /\ Tld T P ((L.types.map Item.type ++ (L.casts.map (fun g : WtL => Item.cast g.w.f g.w.t g.w.co) ++ L.fns.flatMap (fun g : FuL => fuItems g.f)))) out from ⟨HP.out.1, by
      have h := HP.out.2
      rw [List.drop_of_length_le (by rw [HNN.out.2.2.2.1]; exact Nat.le_refl _)] at h
      exact h⟩)
     clear HP hbw
     go_wp2_with fail
     go_loopg [3, 6] n5 (fun g u i wr => ∃ (k : Nat) (P : List Item) (out : Bs), k <= n5 /\ g = n5 - k /\ i = .int .i64 k /\ Hid (OB W1 wr u out /\ Tld T P ((L.types.drop k).map Item.type ++ (L.casts.map (fun g : WtL => Item.cast g.w.f g.w.t g.w.co) ++ L.fns.flatMap (fun g : FuL => fuItems g.f))) out))
     case atStart => exact ⟨0, P, out, by omega, rfl, rfl, HPN⟩
     case round =>
      obtain ⟨k, P, out, hk, rfl, rfl, HP⟩ := hrel
      obtain ⟨AV, cV, rfl, hcc1, hcc2⟩ := own_shape HP.out.1.1
      obtain ⟨hbw, x0, x1, x2, x3, x4⟩ := HX.out wr HP.out.1.2
      by_cases hlt : k < n5
      ·
       obtain ⟨x, hx⟩ : ∃ x, L.types[k]? = some x := ⟨_, List.getElem?_eq_getElem (by rw [HNN.out.2.2.2.2]; exact hlt)⟩
       obtain ⟨bb, ob, rfl, hbb, hcell⟩ := (HSL.out.2.2.2.2 wr hbw).at_ (by omega)
       have d0 : wr.cell? ⟨bb, ob + k, none⟩ = some (.string ⟨x.toArray⟩) := hcell k _ (by simp [envC, hx, strV])
       have hm := List.mem_of_getElem? hx
       have HCALL0 := quoted_any x wr (HTX.out x (.inr (.inl hm)))
       obtain ⟨v, hv⟩ : ∃ v, quoteL x = v := ⟨_, rfl⟩
       have hvl : v.length <= 4294967298 := by rw [<- hv]; have := quote_len x; have := HTX.out x (.inr (.inl hm)); omega
       rw [hv] at HCALL0
       have HCL := Lib.hid HCALL0
       unfold strV at HCL
       obtain ⟨y1, hy1⟩ : ∃ y, ([116, 121, 112, 101, 32] : Bs) ++ v = y := ⟨_, rfl⟩
       obtain ⟨LN, hLN⟩ : ∃ y, y1 ++ [10] = y := ⟨_, rfl⟩
       have m1 : y1.length = 5 + v.length := by rw [<- hy1, List.length_append]; rfl
       have m2 : LN.length = y1.length + 1 := by rw [<- hLN, List.length_append]; rfl
       have t1 := fun W => str_add (P := Tryz.prog) hy1 (by show 5 + v.length <= _; omega) W
       have t2 := fun W => str_add (P := Tryz.prog) hLN (by show y1.length + 1 <= _; omega) W
       have hd : L.types.drop k = x :: L.types.drop (k + 1) := by
        rw [List.drop_eq_getElem_cons (List.getElem?_eq_some_iff.1 hx).1, (List.getElem?_eq_some_iff.1 hx).2]
       have hpt := HP.out.2
       rw [hd, List.map_cons, List.cons_append] at hpt
       have hroom := hpt.room HTL.out
       have hit : itemL (Item.type x) ++ [10] = LN := by rw [type_line, hv, hy1, hLN]
       have hil : (itemL (Item.type x)).length + 1 = LN.length := by rw [<- hit, List.length_append]; rfl
       have HNX := Lib.hid (hpt.next hit)
       have hrm : out.length + LN.length <= 140737488355327 := by omega
       clear hx hbb hcell hm hv hy1 hLN m1 m2 hd hpt hit hil hroom HCALL0
       go_wp2_with fail
       (refine HCL.out.mono ?_); rintro e w4 ⟨rfl, hb4⟩
       have HB4 := Lib.hid hb4
       have hsz4 : W1.heap.size <= w4.heap.size := Nat.le_trans HP.out.1.2.size hb4.size
       clear hb4
       go_wp2_with (at_builtin; refine Lib.wpList_append_own_string _ rfl (.tmp 51) (.tmp 59) 71 9 rfl W1.heap.size 5 i0 Tryz.underlying71 Tryz.underlying9 hi0 hz0 hz1 hz2 _ _ _ rfl (HP.out.1.on HB4.out).1 ⟨LN.toArray⟩ rfl (by rw [str_size]; unfold maxLen; omega) (by rw [str_size]; omega) (by omega) ?_; intro v' w5 hown5 hgrow _; have HO5 := Lib.hid (ob_str (HP.out.1.on HB4.out) b0 hown5 hgrow); clear hown5 hgrow)
       go_roundg (n5 - (k + 1))
       case measure => omega
       case rel => exact ⟨k + 1, P ++ [Item.type x], out ++ LN, by omega, rfl, by go_num, Lib.hid ⟨HO5.out, HNX.out⟩⟩
      ·
       obtain rfl : k = n5 := by omega
       have HPN := Lib.hid (show OB W1 wr (.slice AV out.length cV) out /\ Tld T P ((L.casts.map (fun g : WtL => Item.cast g.w.f g.w.t g.w.co) ++ L.fns.flatMap (fun g : FuL => fuItems g.f))) out from ⟨HP.out.1, by
        have h := HP.out.2
        rw [List.drop_of_length_le (by rw [HNN.out.2.2.2.2]; exact Nat.le_refl _)] at h
        exact h⟩)
       clear HP hbw
       go_wp2_with fail
       go_loopg [3, 7] n2 (fun g u i wr => ∃ (k : Nat) (P : List Item) (out : Bs), k <= n2 /\ g = n2 - k /\ i = .int .i64 k /\ Hid (OB W1 wr u out /\ Tld T P ((L.casts.drop k).map (fun g : WtL => Item.cast g.w.f g.w.t g.w.co) ++ L.fns.flatMap (fun g : FuL => fuItems g.f)) out))
       case atStart => exact ⟨0, P, out, by omega, rfl, rfl, HPN⟩
       case round =>
        obtain ⟨k, P, out, hk, rfl, rfl, HP⟩ := hrel
        obtain ⟨AV, cV, rfl, hcc1, hcc2⟩ := own_shape HP.out.1.1
        obtain ⟨hbw, x0, x1, x2, x3, x4⟩ := HX.out wr HP.out.1.2
        by_cases hlt : k < n2
        ·
         obtain ⟨g, hx⟩ : ∃ x, L.casts[k]? = some x := ⟨_, List.getElem?_eq_getElem (by rw [HNN.out.2.1]; exact hlt)⟩
         obtain ⟨bb, ob, rfl, hbb, hcell⟩ := (HSL.out.2.1 wr hbw).at_ (by omega)
         have hm := List.mem_of_getElem? hx
         obtain ⟨Ac, cc, ecv, hcc, hcd, sco⟩ := ((HCR.out wr hbw).co g hm).sl
         obtain ⟨Q, hQ⟩ : ∃ Q, g.w.co.length = Q := ⟨_, rfl⟩
         rw [hQ] at ecv sco hcc
         have kc : ∀ j v, (WtL.cells g)[j]? = some v -> j < 3 -> wr.cell? ⟨bb, ob + k * 3 + j, none⟩ = some v := fun j v hv hj => by
          rw [Nat.add_assoc]
          exact hcell _ _ (by rw [flat_at WtL.cells 3 (fun _ => rfl) _ _ _ _ hx hj]; exact hv)
         have d0 : wr.cell? ⟨bb, ob + k * 3, none⟩ = some (.string ⟨g.w.f.toArray⟩) := kc 0 _ rfl (by decide)
         have d1 : wr.cell? ⟨bb, ob + k * 3 + 1, none⟩ = some (.string ⟨g.w.t.toArray⟩) := kc 1 _ rfl (by decide)
         have d2 : wr.cell? ⟨bb, ob + k * 3 + 2, none⟩ = some (.slice Ac Q cc) := kc 2 _ (by show some g.cv = _; rw [ecv]) (by decide)
         have HCALL0 := castLine_any g.w.f g.w.t g.w.co Ac Q cc wr hQ (HTX.out _ (.inr (.inr (.inr ⟨g, hm, .inl rfl⟩)))) (HTX.out _ (.inr (.inr (.inr ⟨g, hm, .inr rfl⟩)))) (by have := HLC.out.co g hm; omega) hcc (HOK.out.2.1 g.w (by simp only [CoL.code, List.mem_map]; exact ⟨g, hm, rfl⟩)) sco (HG.out wr hbw)
         obtain ⟨v, hv⟩ : ∃ v, itemL (.cast g.w.f g.w.t g.w.co) = v := ⟨_, rfl⟩
         rw [hv] at HCALL0
         have HCL := Lib.hid HCALL0
         unfold strV at HCL
         obtain ⟨LN, hLN⟩ : ∃ y, v ++ [10] = y := ⟨_, rfl⟩
         have m2 : LN.length = v.length + 1 := by rw [<- hLN, List.length_append]; rfl
         have hd : L.casts.drop k = g :: L.casts.drop (k + 1) := by
          rw [List.drop_eq_getElem_cons (List.getElem?_eq_some_iff.1 hx).1, (List.getElem?_eq_some_iff.1 hx).2]
         have hpt := HP.out.2
         rw [hd, List.map_cons, List.cons_append] at hpt
         have hroom := hpt.room HTL.out
         rw [hv] at hroom
         have t2 := fun W => str_add (P := Tryz.prog) hLN (by show v.length + 1 <= _; omega) W
         have HNX := Lib.hid (hpt.next (show itemL (.cast g.w.f g.w.t g.w.co) ++ [10] = LN by rw [hv, hLN]))
         have hrm : out.length + LN.length <= 140737488355327 := by omega
         clear hx hbb hcell hm kc hQ ecv hcc hcd sco hv hLN m2 hd hpt hroom HCALL0
         go_wp2_with fail
         (refine HCL.out.mono ?_); rintro e w4 ⟨rfl, hb4⟩
         have HB4 := Lib.hid hb4
         have hsz4 : W1.heap.size <= w4.heap.size := Nat.le_trans HP.out.1.2.size hb4.size
         clear hb4
         go_wp2_with (at_builtin; refine Lib.wpList_append_own_string _ rfl (.tmp 68) (.tmp 75) 71 9 rfl W1.heap.size 5 i0 Tryz.underlying71 Tryz.underlying9 hi0 hz0 hz1 hz2 _ _ _ rfl (HP.out.1.on HB4.out).1 ⟨LN.toArray⟩ rfl (by rw [str_size]; unfold maxLen; omega) (by rw [str_size]; omega) (by omega) ?_; intro v' w5 hown5 hgrow _; have HO5 := Lib.hid (ob_str (HP.out.1.on HB4.out) b0 hown5 hgrow); clear hown5 hgrow)
         go_roundg (n2 - (k + 1))
         case measure => omega
         case rel => exact ⟨k + 1, P ++ [Item.cast g.w.f g.w.t g.w.co], out ++ LN, by omega, rfl, by go_num, Lib.hid ⟨HO5.out, HNX.out⟩⟩
        ·
         obtain rfl : k = n2 := by omega
         have HPN := Lib.hid (show OB W1 wr (.slice AV out.length cV) out /\ Tld T P (L.fns.flatMap (fun g : FuL => fuItems g.f)) out from ⟨HP.out.1, by
          have h := HP.out.2
          rw [List.drop_of_length_le (by rw [HNN.out.2.1]; exact Nat.le_refl _)] at h
          exact h⟩)
         clear HP hbw
         go_wp2_with fail
         go_loopg [3, 8] n1 (fun g u i wr => ∃ (k : Nat) (P : List Item) (out : Bs), k <= n1 /\ g = n1 - k /\ i = .int .i64 k /\ Hid (OB W1 wr u out /\ Tld T P ((L.fns.drop k).flatMap (fun g : FuL => fuItems g.f)) out))
         case atStart => exact ⟨0, P, out, by omega, rfl, rfl, HPN⟩
         case round =>
          obtain ⟨k, P, out, hk, rfl, rfl, HP⟩ := hrel
          obtain ⟨AV, cV, rfl, hcc1, hcc2⟩ := own_shape HP.out.1.1
          obtain ⟨hbw, x0, x1, x2, x3, x4⟩ := HX.out wr HP.out.1.2
          by_cases hlt : k < n1
          ·
           obtain ⟨g9, hx⟩ : ∃ x, L.fns[k]? = some x := ⟨_, List.getElem?_eq_getElem (by rw [HNN.out.1]; exact hlt)⟩
           obtain ⟨bb, ob, rfl, hbb, hcell⟩ := (HSL.out.1 w b0).at_ (by omega)
           have hm := List.mem_of_getElem? hx
           obtain ⟨Ae, ce, eev, hce, hde, sev⟩ := ((HCR.out wr hbw).fe g9 hm).sl
           obtain ⟨Ac, cc, ecv, hcc, hcd, sco⟩ := ((HCR.out w b0).fc g9 hm).sl
           obtain ⟨M, hM⟩ : ∃ M, g9.f.env.length = M := ⟨_, rfl⟩
           obtain ⟨Q, hQ⟩ : ∃ Q, g9.f.code.length = Q := ⟨_, rfl⟩
           rw [hM] at eev sev hce
           rw [hQ] at ecv sco hcc
           have kc : ∀ j v, (FuL.cells g9)[j]? = some v -> j < 4 -> ∀ W, Below w.heap.size w W -> W.cell? ⟨bb, ob + k * 4 + j, none⟩ = some v := fun j v hv hj W hW => by
            rw [Nat.add_assoc]
            exact (hW.cell (p := ⟨bb, ob + (k * 4 + j), none⟩) hbb).trans (hcell _ _ (by rw [flat_at FuL.cells 4 (fun _ => rfl) _ _ _ _ hx hj]; exact hv))
           have d0 : wr.cell? ⟨bb, ob + k * 4, none⟩ = some (.slice Ae M ce) := kc 0 _ (by show some g9.ev = _; rw [eev]) (by decide) wr hbw
           have d1 : wr.cell? ⟨bb, ob + k * 4 + 1, none⟩ = some (.string ⟨g9.f.param.toArray⟩) := kc 1 _ rfl (by decide) wr hbw
           have d2 : wr.cell? ⟨bb, ob + k * 4 + 2, none⟩ = some (.string ⟨g9.f.res.toArray⟩) := kc 2 _ rfl (by decide) wr hbw
           have HD := Lib.hid (fun W (hW : Below w.heap.size w W) => kc 3 (.slice Ac Q cc) (by show some g9.cv = _; rw [ecv]) (by decide) W hW)
           have d3 := HD.out wr hbw
           have HQ := Lib.hid (show g9.f.code.length = Q /\ (∀ W, Below w.heap.size w W -> Sl W W.heap.size 3 Ac Q (codC g9.f.code)) /\ (∀ j ∈ g9.f.code, j.ok) from ⟨hQ, fun W hW => (sco.below hW).more hW.size, HOK.out.1 g9.f (by simp only [CoL.code, List.mem_map]; exact ⟨g9, hm, rfl⟩)⟩)
           have hQb : Q <= 1073741824 := by rw [<- hQ]; exact HLC.out.fc g9 hm
           have HCALL0 := headLine_any g9.f.env g9.f.param g9.f.res (.slice Ac Q cc) ⟨_, _, _, rfl⟩ Ae M ce wr hM (HTX.out _ (.inr (.inr (.inl ⟨g9, hm, .inr (.inl rfl)⟩)))) (HTX.out _ (.inr (.inr (.inl ⟨g9, hm, .inr (.inr rfl)⟩)))) (fun s hs => HTX.out _ (.inr (.inr (.inl ⟨g9, hm, .inl hs⟩)))) (by have := HLN.out g9 hm; omega) hce sev
           obtain ⟨v, hv⟩ : ∃ v, itemL (.fn g9.f.env g9.f.param g9.f.res) = v := ⟨_, rfl⟩
           rw [hv] at HCALL0
           have HCL := Lib.hid HCALL0
           unfold strV at HCL
           obtain ⟨LN, hLN⟩ : ∃ y, v ++ [10] = y := ⟨_, rfl⟩
           have m2 : LN.length = v.length + 1 := by rw [<- hLN, List.length_append]; rfl
           have hd : L.fns.drop k = g9 :: L.fns.drop (k + 1) := by
            rw [List.drop_eq_getElem_cons (List.getElem?_eq_some_iff.1 hx).1, (List.getElem?_eq_some_iff.1 hx).2]
           have hpt := HP.out.2
           rw [hd, List.flatMap_cons, show fuItems g9.f = Item.fn g9.f.env g9.f.param g9.f.res :: g9.f.code.map (fun i => Item.ins i.op i.a i.b) from rfl, List.cons_append] at hpt
           have hroom := hpt.room HTL.out
           rw [hv] at hroom
           have t2 := fun W => str_add (P := Tryz.prog) hLN (by show v.length + 1 <= _; omega) W
           have HNX := Lib.hid (hpt.next (show itemL (.fn g9.f.env g9.f.param g9.f.res) ++ [10] = LN by rw [hv, hLN]))
           have hrm : out.length + LN.length <= 140737488355327 := by omega
           clear hx hbb hcell hm kc hM hQ eev ecv hce hde sev hcc hcd sco hv hLN m2 hd hpt hroom HCALL0
           go_wp2_with fail
           (refine HCL.out.mono ?_); rintro e w4 ⟨rfl, hb4⟩
           have HB4 := Lib.hid hb4
           have hsz4 : W1.heap.size <= w4.heap.size := Nat.le_trans HP.out.1.2.size hb4.size
           clear hb4
           go_wp2_with (at_builtin; refine Lib.wpList_append_own_string _ rfl (.tmp 84) (.tmp 91) 71 9 rfl W1.heap.size 5 i0 Tryz.underlying71 Tryz.underlying9 hi0 hz0 hz1 hz2 _ _ _ rfl (HP.out.1.on HB4.out).1 ⟨LN.toArray⟩ rfl (by rw [str_size]; unfold maxLen; omega) (by rw [str_size]; omega) (by omega) ?_; intro v' w5 hown5 hgrow _; have HO5 := Lib.hid (ob_str (HP.out.1.on HB4.out) b0 hown5 hgrow); clear hown5 hgrow)
           go_loopg [3, 9] Q (fun g u i wr => ∃ (q : Nat) (P : List Item) (out : Bs), q <= Q /\ g = Q - q /\ i = .int .i64 q /\ Hid (OB W1 wr u out /\ Tld T P ((g9.f.code.drop q).map (fun i => Item.ins i.op i.a i.b) ++ (L.fns.drop (k + 1)).flatMap (fun g : FuL => fuItems g.f)) out))
           case atStart => exact ⟨0, P ++ [Item.fn g9.f.env g9.f.param g9.f.res], out ++ LN, by omega, rfl, rfl, Lib.hid ⟨HO5.out, HNX.out⟩⟩
           case round =>
            clear HO5 HNX
            obtain ⟨q, P, out, hq, rfl, rfl, HP⟩ := hrel
            obtain ⟨AV, cV, rfl, hcc1, hcc2⟩ := own_shape HP.out.1.1
            obtain ⟨hbw, x0, x1, x2, x3, x4⟩ := HX.out wr HP.out.1.2
            have d3 := HD.out wr hbw
            by_cases hlq : q < Q
            ·
             obtain ⟨j, hj⟩ : ∃ j, g9.f.code[q]? = some j := ⟨_, List.getElem?_eq_getElem (by rw [HQ.out.1]; exact hlq)⟩
             obtain ⟨bc, oc, rfl, hbc, hcc⟩ := (HQ.out.2.1 wr hbw).at_ (by omega)
             have hjok := HQ.out.2.2 j (List.mem_of_getElem? hj)
             have kc : ∀ m v, (inC j)[m]? = some v -> m < 3 -> wr.cell? ⟨bc, oc + q * 3 + m, none⟩ = some v := fun m v hv hm => by
              rw [Nat.add_assoc]; exact hcc _ _ (by rw [show codC g9.f.code = g9.f.code.flatMap inC from rfl, flat_at inC 3 (fun _ => rfl) _ _ _ _ hj hm]; exact hv)
             have r0 : wr.cell? ⟨bc, oc + q * 3, none⟩ = some (.int .i8 j.op) := kc 0 _ rfl (by decide)
             have r1 : wr.cell? ⟨bc, oc + q * 3 + 1, none⟩ = some (.int .i64 j.a) := kc 1 _ rfl (by decide)
             have r2 : wr.cell? ⟨bc, oc + q * 3 + 2, none⟩ = some (.int .i64 j.b) := kc 2 _ rfl (by decide)
             have HCALL0 := insLine_any j wr hjok (HG.out wr hbw)
             obtain ⟨v, hv⟩ : ∃ v, itemL (.ins j.op j.a j.b) = v := ⟨_, rfl⟩
             rw [hv] at HCALL0
             have HCL := Lib.hid HCALL0
             unfold strV at HCL
             obtain ⟨LN, hLN⟩ : ∃ y, v ++ [10] = y := ⟨_, rfl⟩
             have m2 : LN.length = v.length + 1 := by rw [<- hLN, List.length_append]; rfl
             have hd : g9.f.code.drop q = j :: g9.f.code.drop (q + 1) := by
              rw [List.drop_eq_getElem_cons (List.getElem?_eq_some_iff.1 hj).1, (List.getElem?_eq_some_iff.1 hj).2]
             have hpt := HP.out.2
             rw [hd, List.map_cons, List.cons_append] at hpt
             have hroom := hpt.room HTL.out
             rw [hv] at hroom
             have t2 := fun W => str_add (P := Tryz.prog) hLN (by show v.length + 1 <= _; omega) W
             have HNX := Lib.hid (hpt.next (show itemL (.ins j.op j.a j.b) ++ [10] = LN by rw [hv, hLN]))
             have hrm : out.length + LN.length <= 140737488355327 := by omega
             clear hj hbc hcc hjok kc hv hLN m2 hd hpt hroom HCALL0
             go_wp2_with fail
             (refine HCL.out.mono ?_); rintro e w4 ⟨rfl, hb4⟩
             have HB4 := Lib.hid hb4
             have hsz4 : W1.heap.size <= w4.heap.size := Nat.le_trans HP.out.1.2.size hb4.size
             clear hb4
             go_wp2_with (at_builtin; refine Lib.wpList_append_own_string _ rfl (.tmp 104) (.tmp 115) 71 9 rfl W1.heap.size 5 i0 Tryz.underlying71 Tryz.underlying9 hi0 hz0 hz1 hz2 _ _ _ rfl (HP.out.1.on HB4.out).1 ⟨LN.toArray⟩ rfl (by rw [str_size]; unfold maxLen; omega) (by rw [str_size]; omega) (by omega) ?_; intro v' w5 hown5 hgrow _; have HO5 := Lib.hid (ob_str (HP.out.1.on HB4.out) b0 hown5 hgrow); clear hown5 hgrow)
             go_roundg (Q - (q + 1))
             case measure => omega
             case rel => exact ⟨q + 1, P ++ [Item.ins j.op j.a j.b], out ++ LN, by omega, rfl, by go_num, Lib.hid ⟨HO5.out, HNX.out⟩⟩
            ·
             obtain rfl : q = Q := by omega
             have HPN := Lib.hid (show OB W1 wr (.slice AV out.length cV) out /\ Tld T P ((L.fns.drop (k + 1)).flatMap (fun g : FuL => fuItems g.f)) out from ⟨HP.out.1, by
              have h := HP.out.2
              rw [List.drop_of_length_le (by rw [HQ.out.1]; exact Nat.le_refl _)] at h
              exact h⟩)
             clear HP hbw
             go_wp2_with fail
             go_roundg (n1 - (k + 1))
             case measure => omega
             case rel => exact ⟨k + 1, P, out, by omega, rfl, by go_num, HPN⟩
          ·
           obtain rfl : k = n1 := by omega
           have HF := Lib.hid (show Z = out by
            have h := HP.out.2
            rw [List.drop_of_length_le (by rw [HNN.out.1]; exact Nat.le_refl _)] at h
            rw [HSH.out, h.2, <- h.1]; simp)
           have hcv := conv_own HP.out.1.1
           unfold strV at hcv
           go_wp2_with fail
           go_ret
           exact ⟨by rw [HF.out]; rfl, hbw⟩
end Go.Proofs.YtobplngonkdbpaaGreatDoor.D
