/- Parts of this claim: CgB. -/
import Derived.Deep.RegionHeld3
import Derived.Test.YtobplngonkdbpaaGreatDoorP22
import Derived.Test.YtobplngonkdbpaaGreatDoorP05
set_option linter.unusedVariables false
set_option linter.unusedSimpArgs false
/- CgB -/
namespace Go.Proofs.YtobplngonkdbpaaGreatDoor.D
open Go.RowKit
open Go.Proofs.YtobplngonkdbpaaGreatDoor.B
open Go.Proofs.YtobplngonkdbpaaGreatDoor.Bd (PenAt PenT U8 pen_write pen_byte pen_string)
set_option linter.unusedVariables false
set_option linter.unusedSimpArgs false
theorem Sl.row (w : World) (xs : List Value) (T : TypeId) : Sl (w.alloc (.cells xs.toArray T)) (w.alloc (.cells xs.toArray T)).heap.size 1 (some ⟨w.heap.size, 0, none⟩) xs.length xs := by
 refine ⟨by omega, .inr ⟨w.heap.size, 0, rfl, by simp, fun j u hu => ?_⟩⟩
 rw [Nat.zero_add, World.cell?_alloc_new]
 simpa using hu
theorem step_out {out T : Bs} {it : Item} {R : List Item} (h : out ++ showI (it :: R) = T) : (out ++ (itemL it ++ [10])) ++ showI R = T /\ out.length + (itemL it).length + 1 <= T.length := by
 have e : showI (it :: R) = (itemL it ++ [10]) ++ showI R := rfl
 rw [e] at h
 refine ⟨by rw [<- h]; simp, ?_⟩
 rw [<- h]; simp; omega
theorem flat_at {α : Type} (f : α -> List Value) (sz : Nat) (hf : ∀ a, (f a).length = sz) : ∀ (l : List α) (k j : Nat) (a : α), l[k]? = some a -> j < sz -> (l.flatMap f)[k * sz + j]? = (f a)[j]?
 | [], k, j, a, h, _ => by simp at h
 | x :: l, 0, j, a, h, hj => by
  rw [List.getElem?_cons_zero] at h
  injection h with h
  subst h
  rw [List.flatMap_cons, List.getElem?_append_left (by rw [hf]; omega), Nat.zero_mul, Nat.zero_add]
 | x :: l, k + 1, j, a, h, hj => by
  rw [List.getElem?_cons_succ] at h
  rw [List.flatMap_cons, List.getElem?_append_right (by rw [hf, Nat.add_mul]; omega), hf, show (k + 1) * sz + j - sz = k * sz + j by rw [Nat.add_mul]; omega]
  exact flat_at f sz hf l k j a h hj
theorem own_sl {w : World} {base e n c : Nat} {A : Option Addr} {xs : List Value} (h : w.ownsRow base e 1 (.slice A n c) n xs) : Sl w w.heap.size 1 A n xs /\ n <= c := by
 obtain ⟨A', c', hv, h1, _, h2⟩ := Sl.of_own h
 injection hv with e1 _ e3
 subst e1 e3
 exact ⟨h2, h1⟩
theorem own_fresh (w : World) (xs : List Value) (T : TypeId) (n : Nat) (hn : xs.length = n) (hm : n <= maxLen) : (w.alloc (.cells xs.toArray T)).ownsRow w.heap.size T 1 (.slice (some ⟨w.heap.size, 0, none⟩) n n) n xs :=
 ⟨by omega, .inr ⟨w.heap.size, n, _, rfl, Nat.le_refl _, heap_alloc_new _ _, Nat.le_refl _, hm, by simp [hn], by simp [<- hn]⟩⟩
theorem nodeS_c (c : Nd) (w : World) (h : c.ok) (hg : Gl w) :
  Calls Tryz.prog 36 #[.agg #[.int .i8 c.op, .int .i64 c.proj, .bool c.inj, .int .u8 c.head, .int .i64 c.lab, .int .u8 c.from_, .int .u8 c.to_]] w fun e w' => e = .returned (.string ⟨(ndW c).toArray⟩) /\ Below w.heap.size w w' := node_c c w h hg
/-- What stands at each line of Show: told so far, to be told. -/
def ShS (T : Bs) (bb : Nat) (W1 : World) (R : List Item) (wr : World) : Prop := ∃ out, out ++ showI R = T /\ PenAt bb bb (Lib.byteCells out) wr /\ Below bb W1 wr /\ (out = [] -> Blk wr bb 73 #[.pointer none, .slice none 0 0])
theorem ShS.b {T : Bs} {bb : Nat} {W1 wr : World} {R : List Item} (h : ShS T bb W1 R wr) : Below bb W1 wr /\ bb < wr.heap.size := by
 obtain ⟨out, h1, h2, h3, _⟩ := h
 exact ⟨h3, (pen_lt h2).2⟩
theorem ShS.up {T : Bs} {bb : Nat} {W1 wr w : World} {R : List Item} (h : ShS T bb W1 R wr) (hb : Below wr.heap.size wr w) : Below bb W1 w := h.b.1.trans (hb.mono (Nat.le_of_lt h.b.2))
theorem drop_cons {α : Type} {l : List α} {k : Nat} {a : α} (h : l[k]? = some a) : l.drop k = a :: l.drop (k + 1) := by
 obtain ⟨h1, h2⟩ := List.getElem?_eq_some_iff.1 h
 rw [List.drop_eq_getElem_cons h1, h2]
/-- A line more. -/
theorem ShS.line {T : Bs} {bb : Nat} {W1 wr w : World} {it : Item} {R : List Item} {ws : List Bs} {A : Option Addr} {cap N : Nat} (h : ShS T bb W1 (it :: R) wr) (hb : Below wr.heap.size wr w) (hbb : Below bb W1 w) (hws : ws = itemWs it) (hN : N = ws.length)
  (hA : Sl w w.heap.size 1 A N (envC ws)) (hc : N <= cap) (hT : T.length <= 140737488355327) :
  Calls Tryz.prog 31 #[.slice A N cap, .pointer (some ⟨bb, 0, none⟩)] w fun e w' => e = .returned (.tuple #[]) /\ ShS T bb W1 R w' /\ Lib.OthersKept U8 (some bb) w w' := by
 subst hws hN
 obtain ⟨out, h1, h2, h3, _⟩ := h
 obtain ⟨e1, e2⟩ := step_out h1
 refine (line_w bb bb out (itemWs it) A cap w (pen_later h2 hb) hA hc (item_ne it) (by have : (joinC 32 (itemWs it)).length = (itemL it).length := rfl; omega)).mono ?_
 rintro e w' ⟨rfl, hp, hb2, hk⟩
 exact ⟨rfl, ⟨_, e1, hp, hbb.trans hb2, fun e => by simp at e⟩, hk⟩
set_option maxRecDepth 100000 in
set_option maxHeartbeats 8000000 in
theorem show_c (L : CoL) (w : World) (hok : L.code.ok) (hT : (showV L.code).length <= 140737488355327) (htx : ∀ x, (x ∈ L.texts \/ x ∈ L.types \/ (∃ g ∈ L.fns, x ∈ g.f.env \/ x = g.f.param \/ x = g.f.res) \/ (∃ g ∈ L.casts, x = g.w.f \/ x = g.w.t)) -> x.length <= 1073741824)
  (hln : ∀ g, (g ∈ L.fns -> g.f.env.length <= 1073741824) ) (hlc : ∀ g, (g ∈ L.casts -> g.w.co.length <= 1073741824)) (hCR : CR w L) (hg : Gl w) :
  Calls Tryz.prog 9 #[.agg L.vals.toArray] w fun e w' => e = .returned (strV (showV L.code)) /\ Below w.heap.size w w' := by
 obtain ⟨i0, hi0, hz0, hz1, hz2⟩ := info_parts info9
 obtain ⟨A1, c1, e1, hc1, hd1, s1⟩ := hCR.f.sl
 obtain ⟨A2, c2, e2, hc2, hd2, s2⟩ := hCR.c.sl
 obtain ⟨A3, c3, e3, hc3, hd3, s3⟩ := hCR.n.sl
 obtain ⟨A4, c4, e4, hc4, hd4, s4⟩ := hCR.t.sl
 obtain ⟨A5, c5, e5, hc5, hd5, s5⟩ := hCR.y.sl
 obtain ⟨n1, hn1⟩ : ∃ n, L.fns.length = n := ⟨_, rfl⟩
 obtain ⟨n2, hn2⟩ : ∃ n, L.casts.length = n := ⟨_, rfl⟩
 obtain ⟨n3, hn3⟩ : ∃ n, L.nums.length = n := ⟨_, rfl⟩
 obtain ⟨n4, hn4⟩ : ∃ n, L.texts.length = n := ⟨_, rfl⟩
 obtain ⟨n5, hn5⟩ : ∃ n, L.types.length = n := ⟨_, rfl⟩
 rw [show L.vals.toArray = #[.slice A1 n1 c1, .slice A2 n2 c2, .slice A3 n3 c3, .slice A4 n4 c4, .slice A5 n5 c5] by unfold CoL.vals; rw [e1, e2, e3, e4, e5, hn1, hn2, hn3, hn4, hn5]]
 obtain ⟨T, hTT⟩ : ∃ T, showV L.code = T := ⟨_, rfl⟩
 rw [hTT] at hT ⊢
 obtain ⟨bb, hbb⟩ : ∃ b, w.heap.size + 1 = b := ⟨_, rfl⟩
 obtain ⟨W1, hW1⟩ : ∃ W1, (w.alloc (.cells #[.slice A1 n1 c1, .slice A2 n2 c2, .slice A3 n3 c3, .slice A4 n4 c4, .slice A5 n5 c5] 27)).alloc (.cells #[.pointer none, .slice none 0 0] 73) = W1 := ⟨_, rfl⟩
 have hbl : Below w.heap.size w W1 := by rw [<- hW1]; exact bal (bal b0 _) _
 have kb : Blk W1 w.heap.size 27 #[.slice A1 n1 c1, .slice A2 n2 c2, .slice A3 n3 c3, .slice A4 n4 c4, .slice A5 n5 c5] := by rw [<- hW1]; exact (Blk.new _ _ _).alloc _
 have hst : ShS T bb W1 (items L.code) W1 := by
  refine ⟨[], by rw [<- hTT]; rfl, ?_, Below.refl _ _, fun _ => by rw [<- hW1, <- hbb]; have := Blk.new (w.alloc (.cells #[.slice A1 n1 c1, .slice A2 n2 c2, .slice A3 n3 c3, .slice A4 n4 c4, .slice A5 n5 c5] 27)) 73 #[.pointer none, .slice none 0 0]; simpa only [World.size_alloc] using this⟩
  have := pen_new (w.alloc (.cells #[.slice A1 n1 c1, .slice A2 n2 c2, .slice A3 n3 c3, .slice A4 n4 c4, .slice A5 n5 c5] 27))
  rw [World.size_alloc, hbb] at this
  rw [<- hW1]; exact this
 obtain ⟨R5, hR5⟩ : ∃ R, L.code.fns.flatMap fuItems = R := ⟨_, rfl⟩
 obtain ⟨R4, hR4⟩ : ∃ R, L.code.casts.map (fun w => Item.cast w.f w.t w.co) ++ R5 = R := ⟨_, rfl⟩
 obtain ⟨R3, hR3⟩ : ∃ R, L.types.map Item.type ++ R4 = R := ⟨_, rfl⟩
 obtain ⟨R2, hR2⟩ : ∃ R, L.texts.map Item.text ++ R3 = R := ⟨_, rfl⟩
 have hst' : ShS T bb W1 ((L.nums.drop 0).map Item.num ++ R2) W1 := by rw [<- hR2, <- hR3, <- hR4, <- hR5]; exact hst
 have HST := Lib.hid hst'
 have HRR := Lib.hid (And.intro hR2 (And.intro hR3 (And.intro hR4 hR5)))
 have HG := Lib.hid hg
 have HC := Lib.hid (And.intro hok (And.intro htx (And.intro hln hlc)))
 have HCR := Lib.hid hCR
 simp only [maxLen] at hd1 hd2 hd3 hd4 hd5
 have m1 : n1 <= 9223372036854775807 := by omega
 have m2 : n2 <= 9223372036854775807 := by omega
 have m3 : n3 <= 9223372036854775807 := by omega
 have m4 : n4 <= 9223372036854775807 := by omega
 have m5 : n5 <= 9223372036854775807 := by omega
 rw [hn1] at s1
 rw [hn2] at s2
 rw [hn3] at s3
 rw [hn4] at s4
 rw [hn5] at s5
 have HS := Lib.hid (And.intro s1 (And.intro s2 (And.intro s3 (And.intro s4 s5))))
 have HN := Lib.hid (And.intro hn1 (And.intro hn2 (And.intro hn3 (And.intro hn4 hn5))))
 have HB := Lib.hid (And.intro hbb (And.intro hbl kb))
 have HT := Lib.hid (And.intro hT hTT)
 have HBW := Lib.hid (show ∀ W, Below bb W1 W -> Below w.heap.size w W /\ Blk W w.heap.size 27 #[.slice A1 n1 c1, .slice A2 n2 c2, .slice A3 n3 c3, .slice A4 n4 c4, .slice A5 n5 c5] from fun W h => ⟨hbl.trans (h.mono (by omega)), kb.below h (by omega)⟩)
 clear hd1 hd2 hd3 hd4 hd5 hst' hR2 hR3 hR4 hR5 s1 s2 s3 s4 s5 e1 e2 e3 e4 e5 hn1 hn2 hn3 hn4 hn5 hst hg hok htx hln hlc hCR hT hTT hbl hc1 hc2 hc3 hc4 hc5
 have HKB := Lib.hid kb
 clear kb
 go_enter Tryz.func9, Tryz.ntmps9
 go_upto_region 2 with fail
 clear hW1 hbb
 have y3 : W1.cell? ⟨w.heap.size, 2, none⟩ = some (.slice A3 n3 c3) := (HKB.out.cell 2).trans rfl
 go_wp2_with fail
 go_loopg [28] n3 (fun gg i wr => ∃ k : Nat, k <= n3 /\ gg = n3 - k /\ i = .int .i64 k /\ Hid (ShS T bb W1 ((L.nums.drop k).map Item.num ++ R2) wr))
 case atStart => exact ⟨0, by omega, rfl, rfl, HST⟩
 case round =>
  obtain ⟨k, hk, rfl, rfl, HSt⟩ := hrel
  have HBr := Lib.hid (HBW.out wr HSt.out.b.1)
  by_cases hlt : k < n3
  ·
   obtain ⟨x, hx⟩ : ∃ x, L.nums[k]? = some x := ⟨_, List.getElem?_eq_getElem (by rw [HN.out.2.2.1]; exact hlt)⟩
   obtain ⟨b, o, rfl, hblt, hcell⟩ := HS.out.2.2.1.at_ (by omega)
   have hc : wr.cell? ⟨b, o + k, none⟩ = some (.int .i64 x) := (HBr.out.1.cell (p := ⟨b, o + k, none⟩) hblt).trans (hcell k _ (by simp [numC, hx]; try rfl))
   have hQ := num_c x wr (HC.out.1.2.2 x (List.mem_of_getElem? hx)) (HG.out.on HBr.out.1)
   unfold strV at hQ
   have HL := Lib.hid (show ShS T bb W1 (Item.num x :: ((L.nums.drop (k + 1)).map Item.num ++ R2)) wr by have h := HSt.out; rw [drop_cons hx] at h; exact h)
   have HQ := Lib.hid hQ
   clear hx hblt hcell hQ
   go_wp2_with fail
   (refine HQ.out.mono ?_); rintro ev w2 ⟨rfl, hb2⟩
   have HB2 := Lib.hid hb2
   clear hb2
   go_wp2_with fail
   (refine (ShS.line (ws := [kNum, Lib.itoa x]) HL.out (bal HB2.out _) (HL.out.up (bal HB2.out _)) rfl rfl (Sl.row w2 _ _) (Nat.le_refl 2) HT.out.1).mono ?_); rintro ev w3 ⟨rfl, hs3, _⟩
   have HS3 := Lib.hid hs3
   clear hs3
   go_wp2_with fail
   go_roundg (n3 - (k + 1))
   case measure => omega
   case rel => exact ⟨k + 1, by omega, rfl, by go_num, HS3⟩
  ·
   obtain rfl : k = n3 := by omega
   have hst2 : ShS T bb W1 ((L.texts.drop 0).map Item.text ++ R3) wr := by
    have h := HSt.out
    rw [<- HN.out.2.2.1, List.drop_length] at h
    rw [List.drop_zero, HRR.out.1]
    exact h
   have HST := Lib.hid hst2
   clear hst2 HSt
   have y4 : wr.cell? ⟨w.heap.size, 3, none⟩ = some (.slice A4 n4 c4) := (HBr.out.2.cell 3).trans rfl
   go_wp2_with fail
   go_loopg [41] n4 (fun gg i wr => ∃ k : Nat, k <= n4 /\ gg = n4 - k /\ i = .int .i64 k /\ Hid (ShS T bb W1 ((L.texts.drop k).map Item.text ++ R3) wr))
   case atStart => exact ⟨0, by omega, rfl, rfl, HST⟩
   case round =>
    obtain ⟨k, hk, rfl, rfl, HSt⟩ := hrel
    have HBr := Lib.hid (HBW.out wr HSt.out.b.1)
    by_cases hlt : k < n4
    ·
     obtain ⟨x, hx⟩ : ∃ x, L.texts[k]? = some x := ⟨_, List.getElem?_eq_getElem (by rw [HN.out.2.2.2.1]; exact hlt)⟩
     obtain ⟨b, o, rfl, hblt, hcell⟩ := HS.out.2.2.2.1.at_ (by omega)
     have hc : wr.cell? ⟨b, o + k, none⟩ = some (.string ⟨x.toArray⟩) := (HBr.out.1.cell (p := ⟨b, o + k, none⟩) hblt).trans (hcell k _ (by simp [envC, hx]; try rfl))
     have hQ := quote_p x wr (HC.out.2.1 x (.inl (List.mem_of_getElem? hx))) (HG.out.on HBr.out.1)
     unfold strV at hQ
     have HL := Lib.hid (show ShS T bb W1 (Item.text x :: ((L.texts.drop (k + 1)).map Item.text ++ R3)) wr by have h := HSt.out; rw [drop_cons hx] at h; exact h)
     have HQ := Lib.hid hQ
     clear hx hblt hcell hQ
     go_wp2_with fail
     (refine HQ.out.mono ?_); rintro ev w2 ⟨rfl, hb2⟩
     have HB2 := Lib.hid hb2
     clear hb2
     go_wp2_with fail
     (refine (ShS.line (ws := [kText, quoteL x]) HL.out (bal HB2.out _) (HL.out.up (bal HB2.out _)) rfl rfl (Sl.row w2 _ _) (Nat.le_refl 2) HT.out.1).mono ?_); rintro ev w3 ⟨rfl, hs3, _⟩
     have HS3 := Lib.hid hs3
     clear hs3
     go_wp2_with fail
     go_roundg (n4 - (k + 1))
     case measure => omega
     case rel => exact ⟨k + 1, by omega, rfl, by go_num, HS3⟩
    ·
     obtain rfl : k = n4 := by omega
     have hst2 : ShS T bb W1 ((L.types.drop 0).map Item.type ++ R4) wr := by
      have h := HSt.out
      rw [<- HN.out.2.2.2.1, List.drop_length] at h
      rw [List.drop_zero, HRR.out.2.1]
      exact h
     have HST := Lib.hid hst2
     clear hst2 HSt
     have y5 : wr.cell? ⟨w.heap.size, 4, none⟩ = some (.slice A5 n5 c5) := (HBr.out.2.cell 4).trans rfl
     go_wp2_with fail
     go_loopg [54] n5 (fun gg i wr => ∃ k : Nat, k <= n5 /\ gg = n5 - k /\ i = .int .i64 k /\ Hid (ShS T bb W1 ((L.types.drop k).map Item.type ++ R4) wr))
     case atStart => exact ⟨0, by omega, rfl, rfl, HST⟩
     case round =>
      obtain ⟨k, hk, rfl, rfl, HSt⟩ := hrel
      have HBr := Lib.hid (HBW.out wr HSt.out.b.1)
      by_cases hlt : k < n5
      ·
       obtain ⟨x, hx⟩ : ∃ x, L.types[k]? = some x := ⟨_, List.getElem?_eq_getElem (by rw [HN.out.2.2.2.2]; exact hlt)⟩
       obtain ⟨b, o, rfl, hblt, hcell⟩ := HS.out.2.2.2.2.at_ (by omega)
       have hc : wr.cell? ⟨b, o + k, none⟩ = some (.string ⟨x.toArray⟩) := (HBr.out.1.cell (p := ⟨b, o + k, none⟩) hblt).trans (hcell k _ (by simp [envC, hx]; try rfl))
       have hQ := quote_p x wr (HC.out.2.1 x (.inr (.inl (List.mem_of_getElem? hx)))) (HG.out.on HBr.out.1)
       unfold strV at hQ
       have HL := Lib.hid (show ShS T bb W1 (Item.type x :: ((L.types.drop (k + 1)).map Item.type ++ R4)) wr by have h := HSt.out; rw [drop_cons hx] at h; exact h)
       have HQ := Lib.hid hQ
       clear hx hblt hcell hQ
       go_wp2_with fail
       (refine HQ.out.mono ?_); rintro ev w2 ⟨rfl, hb2⟩
       have HB2 := Lib.hid hb2
       clear hb2
       go_wp2_with fail
       (refine (ShS.line (ws := [kType, quoteL x]) HL.out (bal HB2.out _) (HL.out.up (bal HB2.out _)) rfl rfl (Sl.row w2 _ _) (Nat.le_refl 2) HT.out.1).mono ?_); rintro ev w3 ⟨rfl, hs3, _⟩
       have HS3 := Lib.hid hs3
       clear hs3
       go_wp2_with fail
       go_roundg (n5 - (k + 1))
       case measure => omega
       case rel => exact ⟨k + 1, by omega, rfl, by go_num, HS3⟩
      ·
       obtain rfl : k = n5 := by omega
       have hst2 : ShS T bb W1 ((L.casts.drop 0).map (fun g : WtL => Item.cast g.w.f g.w.t g.w.co) ++ R5) wr := by
        have h := HSt.out
        rw [<- HN.out.2.2.2.2, List.drop_length] at h
        rw [List.drop_zero]; have e := HRR.out.2.2.1; simp only [CoL.code, List.map_map] at e; rw [<- e] at h
        exact h
       have HST := Lib.hid hst2
       clear hst2 HSt
       have y2 : wr.cell? ⟨w.heap.size, 1, none⟩ = some (.slice A2 n2 c2) := (HBr.out.2.cell 1).trans rfl
       go_wp2_with fail
       go_loopg [67] n2 (fun gg i wr => ∃ k : Nat, k <= n2 /\ gg = n2 - k /\ i = .int .i64 k /\ Hid (ShS T bb W1 ((L.casts.drop k).map (fun g : WtL => Item.cast g.w.f g.w.t g.w.co) ++ R5) wr))
       case atStart => exact ⟨0, by omega, rfl, rfl, HST⟩
       case round =>
        obtain ⟨k, hk, rfl, rfl, HSt⟩ := hrel
        have HBr := Lib.hid (HBW.out wr HSt.out.b.1)
        by_cases hlt : k < n2
        ·
         obtain ⟨g, hx⟩ : ∃ g, L.casts[k]? = some g := ⟨_, List.getElem?_eq_getElem (by rw [HN.out.2.1]; exact hlt)⟩
         obtain ⟨b, o, rfl, hblt, hcell⟩ := HS.out.2.1.at_ (by omega)
         have hm := List.mem_of_getElem? hx
         obtain ⟨Ac, cc, ecv, hcc, hcd, sco⟩ := (HCR.out.co g hm).sl
         obtain ⟨M, hM⟩ : ∃ M, g.w.co.length = M := ⟨_, rfl⟩
         have hMb : M <= 1073741824 := by rw [<- hM]; exact HC.out.2.2.2 g hm
         rw [hM] at ecv hcc sco
         have kc : ∀ j v, (WtL.cells g)[j]? = some v -> j < 3 -> wr.cell? ⟨b, o + k * 3 + j, none⟩ = some v := fun j v hv hj => by
          rw [Nat.add_assoc]
          exact (HBr.out.1.cell (p := ⟨b, o + (k * 3 + j), none⟩) hblt).trans (hcell _ _ (by rw [flat_at WtL.cells 3 (fun _ => rfl) _ _ _ _ hx hj]; exact hv))
         have hc0 : wr.cell? ⟨b, o + k * 3, none⟩ = some (.string ⟨g.w.f.toArray⟩) := kc 0 _ rfl (by decide)
         have hc1 : wr.cell? ⟨b, o + k * 3 + 1, none⟩ = some (.string ⟨g.w.t.toArray⟩) := kc 1 _ rfl (by decide)
         have hc2 : wr.cell? ⟨b, o + k * 3 + 2, none⟩ = some (.slice Ac M cc) := kc 2 _ (by show some g.cv = _; rw [ecv]) (by decide)
         have HL := Lib.hid (show ShS T bb W1 (Item.cast g.w.f g.w.t g.w.co :: ((L.casts.drop (k + 1)).map (fun g : WtL => Item.cast g.w.f g.w.t g.w.co) ++ R5)) wr by have h := HSt.out; rw [drop_cons hx] at h; exact h)
         have HQ1 := Lib.hid (fun W (h : Below wr.heap.size wr W) => quote_p g.w.f W (HC.out.2.1 _ (.inr (.inr (.inr ⟨g, hm, .inl rfl⟩)))) (HG.out.on (bl HBr.out.1 h)))
         have HQ2 := Lib.hid (fun W (h : Below wr.heap.size wr W) => quote_p g.w.t W (HC.out.2.1 _ (.inr (.inr (.inr ⟨g, hm, .inr rfl⟩)))) (HG.out.on (bl HBr.out.1 h)))
         unfold strV at HQ1 HQ2
         have HCO := Lib.hid (show (∀ c ∈ g.w.co, c.ok) /\ g.w.co.length = M from ⟨fun c hc => HC.out.1.2.1 g.w (by simp only [CoL.code, List.mem_map]; exact ⟨g, hm, rfl⟩) c hc, hM⟩)
         have HSC := Lib.hid sco
         clear hx hblt hcell kc hM hm ecv hcc hcd sco
         go_upto_region 21 with fail
         obtain ⟨b12, hb12⟩ : ∃ x, wr.heap.size = x := ⟨_, rfl⟩
         obtain ⟨Wa, hWa⟩ : ∃ X, wr.alloc (.cells #[.string ⟨g.w.f.toArray⟩, .string ⟨g.w.t.toArray⟩, .slice Ac M cc] 84) = X := ⟨_, rfl⟩
         have hba : Below wr.heap.size wr Wa := by rw [<- hWa]; exact bal b0 _
         have ka : Blk Wa b12 84 #[.string ⟨g.w.f.toArray⟩, .string ⟨g.w.t.toArray⟩, .slice Ac M cc] := by rw [<- hWa, <- hb12]; exact Blk.new _ _ _
         rw [hWa, hb12]
         have HA := Lib.hid (And.intro hba ka)
         have HSa := Lib.hid (show ∀ W, Below Wa.heap.size Wa W -> Below Wa.heap.size Wa W /\ W.cell? ⟨b12, 0, none⟩ = some (.string ⟨g.w.f.toArray⟩) /\ W.cell? ⟨b12, 1, none⟩ = some (.string ⟨g.w.t.toArray⟩) from fun W h => ⟨h, ((HA.out.2.below h HA.out.2.lt).cell 0).trans rfl, ((HA.out.2.below h HA.out.2.lt).cell 1).trans rfl⟩)
         clear hba ka hWa hb12 hc0 hc1 hc2
         refine wp_region_held_drew (S := (fun W' => Below Wa.heap.size Wa W' /\ W'.cell? ⟨b12, 0, none⟩ = some (.string ⟨g.w.f.toArray⟩) /\ W'.cell? ⟨b12, 1, none⟩ = some (.string ⟨g.w.t.toArray⟩))) (by kernel_rfl) ?ss1 (fun hHeld => ?rr1)
         case ss1 => (try dsimp only); exact HSa.out _ (bdr b0 1)
         refine rgt 0 71 rfl rfl hHeld ?_
         try simp only [Act.put, rg1, rg2, rg3]
         refine rgt 1 72 rfl rfl hHeld ?_
         try simp only [Act.put, rg1, rg2, rg3]
         refine rgt 3 74 rfl rfl hHeld ?_
         try simp only [Act.put, rg1, rg2, rg3]
         refine rgt 4 75 rfl rfl hHeld ?_
         try simp only [Act.put, rg1, rg2, rg3]
         refine rgc 2 (some 73) rfl (fun K hK => ?_)
         go_simp
         ((refine (HQ1.out _ (bl HA.out.1 hHeld.1)).mono ?_); rintro e w2 ⟨rfl, hb2⟩)
         refine hK.out _ _ ?ss6 (fun hHeld2 => ?rr6)
         case ss6 => (try dsimp only); exact HSa.out _ (bl hHeld.1 hb2)
         clear hK K
         clear hHeld
         have hHeld := hHeld2
         clear hHeld2
         try simp only [Act.put, rg1, rg2, rg3]
         refine rgc 5 (some 76) rfl (fun K hK => ?_)
         go_simp
         ((refine (HQ2.out _ (bl HA.out.1 hHeld.1)).mono ?_); rintro e w3 ⟨rfl, hb3⟩)
         refine hK.out _ _ ?ss7 (fun hHeld2 => ?rr7)
         case ss7 => (try dsimp only); exact HSa.out _ (bl hHeld.1 hb3)
         clear hK K
         clear hHeld
         have hHeld := hHeld2
         clear hHeld2
         try simp only [Act.put, rg1, rg2, rg3]
         refine rgc 6 (some 77) rfl (fun K hK => ?_)
         go_simp
         (have hbw3 := hHeld.1)
         refine hK.out _ _ ?ss8 (fun hHeld2 => ?rr8)
         case ss8 => (try dsimp only); exact HSa.out _ (bal hHeld.1 _)
         clear hK K
         clear hHeld
         have hHeld := hHeld2
         clear hHeld2
         try simp only [Act.put, rg1, rg2, rg3]
         refine rgt 7 13 rfl rfl hHeld ?_
         try simp only [Act.put, rg1, rg2, rg3]
         refine wpAnyH_done (by kernel_rfl) ?_ _
         have hown := own_fresh w3 [.string ⟨#[99, 97, 115, 116]⟩, .string ⟨(quoteL g.w.f).toArray⟩, .string ⟨(quoteL g.w.t).toArray⟩] 9 3 rfl (by decide)
         obtain ⟨bs, hbs⟩ : ∃ x, w3.heap.size = x := ⟨_, rfl⟩
         obtain ⟨W4, hW4⟩ : ∃ X, w3.alloc (.cells #[.string ⟨#[99, 97, 115, 116]⟩, .string ⟨(quoteL g.w.f).toArray⟩, .string ⟨(quoteL g.w.t).toArray⟩] 9) = X := ⟨_, rfl⟩
         rw [hbs] at hown ⊢
         rw [hW4] at hown hHeld ⊢
         have H4 := Lib.hid (show W4.ownsRow bs 9 1 (.slice (some ⟨bs, 0, none⟩) 3 3) 3 (envC (kCast :: quoteL g.w.f :: quoteL g.w.t :: (g.w.co.take 0).map ndW)) /\ Below Wa.heap.size Wa W4 /\ bs < W4.heap.size /\ Wa.heap.size <= bs from ⟨hown, hHeld.1, by rw [<- hW4, World.size_alloc, hbs]; omega, by rw [<- hbs]; exact hbw3.size⟩)
         have hc2 : W4.cell? ⟨b12, 2, none⟩ = some (.slice Ac M cc) := ((HA.out.2.below hHeld.1 HA.out.2.lt).cell 2).trans rfl
         clear hown hHeld hW4 hbs hb2 hb3 hbw3
         go_wp2_with fail
         go_loopg [13, 81] M (fun gg V i wq => ∃ q : Nat, q <= M /\ gg = M - q /\ i = .int .i64 q /\ Hid (wq.ownsRow bs 9 1 V (q + 3) (envC (kCast :: quoteL g.w.f :: quoteL g.w.t :: (g.w.co.take q).map ndW)) /\ Below Wa.heap.size Wa wq /\ bs < wq.heap.size))
         case atStart => exact ⟨0, by omega, rfl, rfl, Lib.hid ⟨H4.out.1, H4.out.2.1, H4.out.2.2.1⟩⟩
         case round =>
          obtain ⟨q, hq, rfl, rfl, HW⟩ := hrel
          obtain ⟨AV, cV, rfl, hv1, hv2⟩ := own_shape HW.out.1
          have HBq := Lib.hid (show Below w.heap.size w wr from bl HBr.out.1 (bl HA.out.1 HW.out.2.1))
          clear hc2
          by_cases hlt2 : q < M
          ·
           obtain ⟨c, hc⟩ : ∃ c, g.w.co[q]? = some c := ⟨_, List.getElem?_eq_getElem (by rw [HCO.out.2]; exact hlt2)⟩
           obtain ⟨bc, oc, rfl, hbc, hcc⟩ := HSC.out.at_ (by omega)
           have kc : ∀ j v, (ndC c)[j]? = some v -> j < 7 -> wr.cell? ⟨bc, oc + q * 7 + j, none⟩ = some v := fun j v hv hj => by
            rw [Nat.add_assoc]
            exact (HBq.out.cell (p := ⟨bc, oc + (q * 7 + j), none⟩) hbc).trans (hcc _ _ (by rw [cosC, flat_at ndC 7 (fun _ => rfl) _ _ _ _ hc hj]; exact hv))
           have d0 : wr.cell? ⟨bc, oc + q * 7, none⟩ = some (.int .i8 c.op) := kc 0 _ rfl (by decide)
           have d1 : wr.cell? ⟨bc, oc + q * 7 + 1, none⟩ = some (.int .i64 c.proj) := kc 1 _ rfl (by decide)
           have d2 : wr.cell? ⟨bc, oc + q * 7 + 2, none⟩ = some (.bool c.inj) := kc 2 _ rfl (by decide)
           have d3 : wr.cell? ⟨bc, oc + q * 7 + 3, none⟩ = some (.int .u8 c.head) := kc 3 _ rfl (by decide)
           have d4 : wr.cell? ⟨bc, oc + q * 7 + 4, none⟩ = some (.int .i64 c.lab) := kc 4 _ rfl (by decide)
           have d5 : wr.cell? ⟨bc, oc + q * 7 + 5, none⟩ = some (.int .u8 c.from_) := kc 5 _ rfl (by decide)
           have d6 : wr.cell? ⟨bc, oc + q * 7 + 6, none⟩ = some (.int .u8 c.to_) := kc 6 _ rfl (by decide)
           have HND := Lib.hid (fun W (h : Below wr.heap.size wr W) => nodeS_c c W (HCO.out.1 c (List.mem_of_getElem? hc)) (HG.out.on (bl HBq.out h)))
           have HTK := Lib.hid (show g.w.co.take (q + 1) = g.w.co.take q ++ [c] by rw [List.take_add_one, hc]; rfl)
           have HOW := Lib.hid (show ∀ W, Below wr.heap.size wr W -> W.ownsRow bs 9 1 (.slice AV (q + 3) cV) (q + 3) (envC (kCast :: quoteL g.w.f :: quoteL g.w.t :: (g.w.co.take q).map ndW)) from fun W h => own_below HW.out.1 h)
           clear hc hbc hcc kc
           go_wp2_with fail
           (refine (HND.out _ (bal b0 _)).mono ?_); rintro ev w5 ⟨rfl, hb5⟩
           have hb5' : Below wr.heap.size wr w5 := bl (bal b0 _) hb5
           have HB5 := Lib.hid hb5'
           clear hb5 hb5'
           go_wp2_with (at_builtin; refine wpList_append_sl _ rfl (.tmp 85) (.tmp 88) _ rfl bs 9 i0 _ 1 16 Tryz.underlying25 hi0 hz0 hz1 hz2 rfl (by omega) _ _ _ rfl (HOW.out _ (bal HB5.out _)) (w5.heap.size + 1) (some ⟨w5.heap.size, 0, none⟩) 1 1 [.string ⟨(ndW c).toArray⟩] rfl (Sl.one w5 _ _) (fun u hu => by rw [List.mem_singleton.1 hu]; rfl) (by unfold maxLen; omega) (by omega) (by have := HW.out.2.2; have := HB5.out.size; simp only [World.size_alloc]; omega) ?_; intro V' w6 hown6 hg6 _)
           have HF := Lib.hid (show w6.ownsRow bs 9 1 V' (q + 1 + 3) (envC (kCast :: quoteL g.w.f :: quoteL g.w.t :: (g.w.co.take (q + 1)).map ndW)) /\ Below Wa.heap.size Wa w6 /\ bs < w6.heap.size from by
            refine ⟨?_, ?_, ?_⟩
            ·
             rw [HTK.out]
             have h := hown6
             rw [show q + 3 + 1 = q + 1 + 3 by omega] at h
             rw [show envC (kCast :: quoteL g.w.f :: quoteL g.w.t :: (g.w.co.take q ++ [c]).map ndW) = envC (kCast :: quoteL g.w.f :: quoteL g.w.t :: (g.w.co.take q).map ndW) ++ [strV (ndW c)] by simp [envC]]
             exact h
            · exact (bl HW.out.2.1 (bal HB5.out _)).grown hg6 (by have := HW.out.2.1.size; have := HB5.out.size; simp only [World.size_alloc]; omega) fun k hk => Nat.le_trans H4.out.2.2.2 (HW.out.1.lt k hk).1
            ·
             have h6 := hg6.size
             rw [World.size_alloc] at h6
             have := HW.out.2.2; have := HB5.out.size; omega)
           clear hown6 hg6
           go_wp2_with fail
           go_roundg (M - (q + 1))
           case measure => omega
           case rel => exact ⟨q + 1, by omega, rfl, by go_num, HF⟩
          ·
           obtain rfl : q = M := by omega
           have hsl := own_sl HW.out.1
           have HLN := Lib.hid (show Calls Tryz.prog 31 #[.slice AV (q + 3) cV, .pointer (some ⟨bb, 0, none⟩)] wr fun e w' => e = .returned (.tuple #[]) /\ ShS T bb W1 ((L.casts.drop (k + 1)).map (fun g : WtL => Item.cast g.w.f g.w.t g.w.co) ++ R5) w' /\ Lib.OthersKept U8 (some bb) wr w' from by
            have hw : kCast :: quoteL g.w.f :: quoteL g.w.t :: (g.w.co.take q).map ndW = itemWs (Item.cast g.w.f g.w.t g.w.co) := by rw [<- HCO.out.2, List.take_length]; rfl
            refine ShS.line HL.out (bl HA.out.1 HW.out.2.1) (HL.out.up (bl HA.out.1 HW.out.2.1)) hw ?_ hsl.1 hsl.2 HT.out.1
            rw [<- HCO.out.2, List.take_length]; simp)
           clear hsl
           go_wp2_with fail
           (refine HLN.out.mono ?_); rintro ev w3 ⟨rfl, hs3, _⟩
           have HS3 := Lib.hid hs3
           clear hs3
           go_wp2_with fail
           go_roundg (n2 - (k + 1))
           case measure => omega
           case rel => exact ⟨k + 1, by omega, rfl, by go_num, HS3⟩
        ·
         obtain rfl : k = n2 := by omega
         have hst2 : ShS T bb W1 ((L.fns.drop 0).flatMap (fun g : FuL => fuItems g.f)) wr := by
          have h := HSt.out
          rw [<- HN.out.2.1, List.drop_length] at h
          rw [List.drop_zero]
          have e := HRR.out.2.2.2
          simp only [CoL.code, List.flatMap_map] at e
          rw [<- e] at h
          exact h
         have HST := Lib.hid hst2
         clear hst2 HSt
         have y1 : wr.cell? ⟨w.heap.size, 0, none⟩ = some (.slice A1 n1 c1) := (HBr.out.2.cell 0).trans rfl
         go_wp2_with fail
         go_loopg [98] n1 (fun gg i wr => ∃ k : Nat, k <= n1 /\ gg = n1 - k /\ i = .int .i64 k /\ Hid (ShS T bb W1 ((L.fns.drop k).flatMap (fun g : FuL => fuItems g.f)) wr))
         case atStart => exact ⟨0, by omega, rfl, rfl, HST⟩
         case round =>
          obtain ⟨k, hk, rfl, rfl, HSt⟩ := hrel
          have HBr := Lib.hid (HBW.out wr HSt.out.b.1)
          by_cases hlt : k < n1
          ·
           obtain ⟨g, hx⟩ : ∃ g, L.fns[k]? = some g := ⟨_, List.getElem?_eq_getElem (by rw [HN.out.1]; exact hlt)⟩
           obtain ⟨b, o, rfl, hblt, hcell⟩ := HS.out.1.at_ (by omega)
           have hm := List.mem_of_getElem? hx
           obtain ⟨Ae, ce, eev, hce, hde, sev⟩ := (HCR.out.fe g hm).sl
           obtain ⟨Ac, cc, ecv, hcc, hcd, sco⟩ := (HCR.out.fc g hm).sl
           obtain ⟨M, hM⟩ : ∃ M, g.f.env.length = M := ⟨_, rfl⟩
           obtain ⟨Q, hQ⟩ : ∃ Q, g.f.code.length = Q := ⟨_, rfl⟩
           have hMb : M <= 1073741824 := by rw [<- hM]; exact HC.out.2.2.1 g hm
           simp only [maxLen] at hcd
           have hQb : Q <= 9223372036854775807 := by omega
           rw [hM] at eev hce sev
           rw [hQ] at ecv hcc sco
           have kc : ∀ j v, (FuL.cells g)[j]? = some v -> j < 4 -> wr.cell? ⟨b, o + k * 4 + j, none⟩ = some v := fun j v hv hj => by
            rw [Nat.add_assoc]
            exact (HBr.out.1.cell (p := ⟨b, o + (k * 4 + j), none⟩) hblt).trans (hcell _ _ (by rw [flat_at FuL.cells 4 (fun _ => rfl) _ _ _ _ hx hj]; exact hv))
           have hc0 : wr.cell? ⟨b, o + k * 4, none⟩ = some (.slice Ae M ce) := kc 0 _ (by show some g.ev = _; rw [eev]) (by decide)
           have hc1 : wr.cell? ⟨b, o + k * 4 + 1, none⟩ = some (.string ⟨g.f.param.toArray⟩) := kc 1 _ rfl (by decide)
           have hc2 : wr.cell? ⟨b, o + k * 4 + 2, none⟩ = some (.string ⟨g.f.res.toArray⟩) := kc 2 _ rfl (by decide)
           have hc3 : wr.cell? ⟨b, o + k * 4 + 3, none⟩ = some (.slice Ac Q cc) := kc 3 _ (by show some g.cv = _; rw [ecv]) (by decide)
           have HL := Lib.hid (show ShS T bb W1 (Item.fn g.f.env g.f.param g.f.res :: (g.f.code.map (fun i => Item.ins i.op i.a i.b) ++ (L.fns.drop (k + 1)).flatMap (fun g : FuL => fuItems g.f))) wr by have h := HSt.out; rw [drop_cons hx] at h; exact h)
           have HQ1 := Lib.hid (fun W (h : Below wr.heap.size wr W) => quote_p g.f.param W (HC.out.2.1 _ (.inr (.inr (.inl ⟨g, hm, .inr (.inl rfl)⟩)))) (HG.out.on (bl HBr.out.1 h)))
           have HQ2 := Lib.hid (fun W (h : Below wr.heap.size wr W) => quote_p g.f.res W (HC.out.2.1 _ (.inr (.inr (.inl ⟨g, hm, .inr (.inr rfl)⟩)))) (HG.out.on (bl HBr.out.1 h)))
           unfold strV at HQ1 HQ2
           have HCO := Lib.hid (show (∀ x ∈ g.f.env, x.length <= 1073741824) /\ g.f.env.length = M /\ (∀ i ∈ g.f.code, i.ok) /\ g.f.code.length = Q from ⟨fun x hx => HC.out.2.1 x (.inr (.inr (.inl ⟨g, hm, .inl hx⟩))), hM, HC.out.1.1 g.f (by simp only [CoL.code, List.mem_map]; exact ⟨g, hm, rfl⟩), hQ⟩)
           have HSC := Lib.hid (And.intro sev sco)
           clear hx hblt hcell kc hM hQ hm eev ecv hcc hce hcd hde sco sev
           go_upto_region 32 with fail
           obtain ⟨b17, hb17⟩ : ∃ x, wr.heap.size = x := ⟨_, rfl⟩
           obtain ⟨Wa, hWa⟩ : ∃ X, wr.alloc (.cells #[.slice Ae M ce, .string ⟨g.f.param.toArray⟩, .string ⟨g.f.res.toArray⟩, .slice Ac Q cc] 90) = X := ⟨_, rfl⟩
           have hba : Below wr.heap.size wr Wa := by rw [<- hWa]; exact bal b0 _
           have ka : Blk Wa b17 90 #[.slice Ae M ce, .string ⟨g.f.param.toArray⟩, .string ⟨g.f.res.toArray⟩, .slice Ac Q cc] := by rw [<- hWa, <- hb17]; exact Blk.new _ _ _
           rw [hWa, hb17]
           have HA := Lib.hid (show Below wr.heap.size wr Wa /\ Blk Wa b17 90 #[.slice Ae M ce, .string ⟨g.f.param.toArray⟩, .string ⟨g.f.res.toArray⟩, .slice Ac Q cc] /\ b17 ≠ bb from ⟨hba, ka, by have := HSt.out.b.2; omega⟩)
           clear hba ka hWa hb17 hc0 hc1 hc2 hc3
           have hown := own_fresh Wa [.string ⟨#[102, 110]⟩] 9 1 rfl (by decide)
           go_upto_region 33 with fail
           obtain ⟨bs, hbs⟩ : ∃ x, Wa.heap.size = x := ⟨_, rfl⟩
           obtain ⟨W4, hW4⟩ : ∃ X, Wa.alloc (.cells #[.string ⟨#[102, 110]⟩] 9) = X := ⟨_, rfl⟩
           rw [hbs] at hown ⊢
           rw [hW4] at hown ⊢
           have h4b : Below Wa.heap.size Wa W4 := by rw [<- hW4]; exact bal b0 _
           have H4 := Lib.hid (show W4.ownsRow bs 9 1 (.slice (some ⟨bs, 0, none⟩) 1 1) 1 (envC (kFn :: (g.f.env.take 0).map quoteL)) /\ Below Wa.heap.size Wa W4 /\ bs < W4.heap.size /\ Wa.heap.size <= bs from ⟨hown, h4b, by rw [<- hW4, World.size_alloc, hbs]; omega, by omega⟩)
           have hc0 : W4.cell? ⟨b17, 0, none⟩ = some (.slice Ae M ce) := ((HA.out.2.1.below h4b HA.out.2.1.lt).cell 0).trans rfl
           clear hown h4b hW4 hbs
           go_wp2_with fail
           go_loopg [18, 106] M (fun gg V i wr => ∃ q : Nat, q <= M /\ gg = M - q /\ i = .int .i64 q /\ Hid (wr.ownsRow bs 9 1 V (q + 1) (envC (kFn :: (g.f.env.take q).map quoteL)) /\ Below Wa.heap.size Wa wr /\ bs < wr.heap.size))
           case atStart => exact ⟨0, by omega, rfl, rfl, Lib.hid ⟨H4.out.1, H4.out.2.1, H4.out.2.2.1⟩⟩
           case round =>
            obtain ⟨q, hq, rfl, rfl, HW⟩ := hrel
            obtain ⟨AV, cV, rfl, hv1, hv2⟩ := own_shape HW.out.1
            have HBq := Lib.hid (show Below w.heap.size w wr from bl HBr.out.1 (bl HA.out.1 HW.out.2.1))
            clear hc0
            by_cases hlt2 : q < M
            ·
             obtain ⟨x, hc⟩ : ∃ x, g.f.env[q]? = some x := ⟨_, List.getElem?_eq_getElem (by rw [HCO.out.2.1]; exact hlt2)⟩
             obtain ⟨be, oe, rfl, hbe, hee⟩ := HSC.out.1.at_ (by omega)
             have d0 : wr.cell? ⟨be, oe + q, none⟩ = some (.string ⟨x.toArray⟩) := (HBq.out.cell (p := ⟨be, oe + q, none⟩) hbe).trans (hee q _ (by simp [envC, hc]; rfl))
             have hND := quote_p x wr (HCO.out.1 x (List.mem_of_getElem? hc)) (HG.out.on HBq.out)
             unfold strV at hND
             have HND := Lib.hid hND
             have HTK := Lib.hid (show g.f.env.take (q + 1) = g.f.env.take q ++ [x] by rw [List.take_add_one, hc]; rfl)
             have HOW := Lib.hid (show ∀ W, Below wr.heap.size wr W -> W.ownsRow bs 9 1 (.slice AV (q + 1) cV) (q + 1) (envC (kFn :: (g.f.env.take q).map quoteL)) from fun W h => own_below HW.out.1 h)
             clear hc hbe hee hND
             go_wp2_with fail
             (refine HND.out.mono ?_); rintro ev w5 ⟨rfl, hb5⟩
             have HB5 := Lib.hid hb5
             clear hb5
             go_wp2_with (at_builtin; refine wpList_append_sl _ rfl (.tmp 110) (.tmp 113) _ rfl bs 9 i0 _ 1 16 Tryz.underlying25 hi0 hz0 hz1 hz2 rfl (by omega) _ _ _ rfl (HOW.out _ (bal HB5.out _)) (w5.heap.size + 1) (some ⟨w5.heap.size, 0, none⟩) 1 1 [.string ⟨(quoteL x).toArray⟩] rfl (Sl.one w5 _ _) (fun u hu => by rw [List.mem_singleton.1 hu]; rfl) (by unfold maxLen; omega) (by omega) (by have := HW.out.2.2; have := HB5.out.size; simp only [World.size_alloc]; omega) ?_; intro V' w6 hown6 hg6 _)
             have HF := Lib.hid (show w6.ownsRow bs 9 1 V' (q + 1 + 1) (envC (kFn :: (g.f.env.take (q + 1)).map quoteL)) /\ Below Wa.heap.size Wa w6 /\ bs < w6.heap.size from by
              refine ⟨?_, ?_, ?_⟩
              ·
               rw [HTK.out]
               rw [show envC (kFn :: (g.f.env.take q ++ [x]).map quoteL) = envC (kFn :: (g.f.env.take q).map quoteL) ++ [strV (quoteL x)] by simp [envC]]
               exact hown6
              · exact (bl HW.out.2.1 (bal HB5.out _)).grown hg6 (by have := HW.out.2.1.size; have := HB5.out.size; simp only [World.size_alloc]; omega) fun k hk => Nat.le_trans H4.out.2.2.2 (HW.out.1.lt k hk).1
              ·
               have h6 := hg6.size
               rw [World.size_alloc] at h6
               have := HW.out.2.2; have := HB5.out.size; omega)
             clear hown6 hg6
             go_wp2_with fail
             go_roundg (M - (q + 1))
             case measure => omega
             case rel => exact ⟨q + 1, by omega, rfl, by go_num, HF⟩
            ·
             obtain rfl : q = M := by omega
             have HK17 := Lib.hid (show ∀ W, Below Wa.heap.size Wa W -> Blk W b17 90 #[.slice Ae q ce, .string ⟨g.f.param.toArray⟩, .string ⟨g.f.res.toArray⟩, .slice Ac Q cc] from fun W h => HA.out.2.1.below h HA.out.2.1.lt)
             have HS17 := Lib.hid (show ∀ W, Blk W b17 90 #[.slice Ae q ce, .string ⟨g.f.param.toArray⟩, .string ⟨g.f.res.toArray⟩, .slice Ac Q cc] -> W.cell? ⟨b17, 1, none⟩ = some (.string ⟨g.f.param.toArray⟩) /\ W.cell? ⟨b17, 2, none⟩ = some (.string ⟨g.f.res.toArray⟩) from fun W h => ⟨(h.cell 1).trans rfl, (h.cell 2).trans rfl⟩)
             have hb1 : Below Wa.heap.size Wa wr.drew := bdr HW.out.2.1 1
             go_upto_region 38 with fail
             refine wp_region_held_drew (S := (fun W' => W'.cell? ⟨b17, 1, none⟩ = some (.string ⟨g.f.param.toArray⟩) /\ W'.cell? ⟨b17, 2, none⟩ = some (.string ⟨g.f.res.toArray⟩))) (by kernel_rfl) ?ss10 (fun hHeld => ?rr10)
             case ss10 => (try dsimp only); exact HS17.out _ (HK17.out _ hb1)
             refine rgt 0 116 rfl rfl hHeld ?_
             try simp only [Act.put, rg1, rg2, rg3]
             refine rgt 1 117 rfl rfl hHeld ?_
             try simp only [Act.put, rg1, rg2, rg3]
             refine rgt 2 118 rfl rfl hHeld ?_
             try simp only [Act.put, rg1, rg2, rg3]
             refine rgt 3 119 rfl rfl hHeld ?_
             try simp only [Act.put, rg1, rg2, rg3]
             refine rgt 5 121 rfl rfl hHeld ?_
             try simp only [Act.put, rg1, rg2, rg3]
             refine rgt 6 122 rfl rfl hHeld ?_
             try simp only [Act.put, rg1, rg2, rg3]
             refine rgc 4 (some 120) rfl (fun K hK => ?_)
             go_simp
             ((refine (HQ1.out _ (bl HA.out.1 hb1)).mono ?_); rintro e w2 ⟨rfl, hb2'⟩; have hb2 := bl hb1 hb2')
             refine hK.out _ _ ?ss17 (fun hHeld2 => ?rr17)
             case ss17 => (try dsimp only); exact HS17.out _ (HK17.out _ hb2)
             clear hK K
             clear hHeld
             have hHeld := hHeld2
             clear hHeld2
             try simp only [Act.put, rg1, rg2, rg3]
             refine rgc 7 (some 123) rfl (fun K hK => ?_)
             go_simp
             ((refine (HQ2.out _ (bl HA.out.1 hb2)).mono ?_); rintro e w3 ⟨rfl, hb3'⟩; have hb3 := bl hb2 hb3'; have hbq := bl (bl (bdr (Below.refl wr.heap.size wr) 1) hb2') hb3')
             refine hK.out _ _ ?ss18 (fun hHeld2 => ?rr18)
             case ss18 => (try dsimp only); exact HS17.out _ (HK17.out _ hb3)
             clear hK K
             clear hHeld
             have hHeld := hHeld2
             clear hHeld2
             try simp only [Act.put, rg1, rg2, rg3]
             refine rgc 8 (some 124) rfl (fun K hK => ?_)
             go_simp
             go_simp
             refine hK.out _ _ ?ss19 (fun hHeld2 => ?rr19)
             case ss19 => (try dsimp only); exact HS17.out _ (HK17.out _ (bal hb3 _))
             clear hK K
             clear hHeld
             have hHeld := hHeld2
             clear hHeld2
             try simp only [Act.put, rg1, rg2, rg3]
             refine rgc 9 (some 125) rfl (fun K hK => ?_)
             (refine step_append_sl rfl (.tmp 117) (.tmp 124) _ rfl bs 9 i0 _ 1 16 Tryz.underlying25 hi0 hz0 hz1 hz2 rfl (by omega) (.slice AV (q + 1) cV) (q + 1) _ rfl (own_below HW.out.1 (bal hbq _)) (w3.alloc (.cells #[.string ⟨#[58]⟩, .string ⟨(quoteL g.f.param).toArray⟩, .string ⟨(quoteL g.f.res).toArray⟩] 9)).heap.size (some ⟨w3.heap.size, 0, none⟩) 3 3 [.string ⟨#[58]⟩, .string ⟨(quoteL g.f.param).toArray⟩, .string ⟨(quoteL g.f.res).toArray⟩] rfl (Sl.row w3 _ _) (by intro u hu; simp only [List.mem_cons, List.not_mem_nil, or_false] at hu; rcases hu with rfl | rfl | rfl <;> rfl) (by unfold maxLen; omega) (by omega) (by have := HW.out.2.2; have := hbq.size; simp only [World.size_alloc]; omega) ?_); (intro V' w6 hown6 hg6 hV6); (obtain ⟨AV6, cV6, rfl, _, _⟩ := own_shape hown6); have hb6 : Below Wa.heap.size Wa w6 := (bal hb3 _).grown hg6 (by have := hb3.size; simp only [World.size_alloc]; omega) (fun k hk => Nat.le_trans H4.out.2.2.2 (HW.out.1.lt k hk).1); have hsl6 := own_sl hown6; have hln6 : Calls Tryz.prog 31 #[.slice AV6 (q + 1 + 3) cV6, .pointer (some ⟨bb, 0, none⟩)] w6 (fun e w' => e = .returned (.tuple #[]) /\ ShS T bb W1 (g.f.code.map (fun i => Item.ins i.op i.a i.b) ++ (L.fns.drop (k + 1)).flatMap (fun g : FuL => fuItems g.f)) w' /\ Lib.OthersKept U8 (some bb) w6 w') := (by refine ShS.line HL.out (bl HA.out.1 hb6) (HL.out.up (bl HA.out.1 hb6)) (ws := itemWs (Item.fn g.f.env g.f.param g.f.res)) rfl (by simp [itemWs, HCO.out.2.1]) (by have h := hsl6.1; rw [<- HCO.out.2.1, List.take_length] at h; rw [HCO.out.2.1] at h; simpa [itemWs, envC, strV] using h) hsl6.2 HT.out.1); have HLN6 := Lib.hid hln6; clear hln6 hsl6 hown6 hg6 hV6
             refine hK.out _ _ ?ss20 (fun hHeld2 => ?rr20)
             case ss20 => (try dsimp only); exact HS17.out _ (HK17.out _ hb6)
             clear hK K
             clear hHeld
             have hHeld := hHeld2
             clear hHeld2
             try simp only [Act.put, rg1, rg2, rg3]
             refine rgc 10 (some 126) rfl (fun K hK => ?_)
             go_simp
             ((refine HLN6.out.mono ?_); rintro e w7 ⟨rfl, hs7, hk7⟩; have K7 := Lib.hid (kept_blk hk7 (HK17.out _ hb6) HA.out.2.2 (by decide)); have HS7 := Lib.hid hs7; clear hs7 hk7)
             refine hK.out _ _ ?ss21 (fun hHeld2 => ?rr21)
             case ss21 => (try dsimp only); exact HS17.out _ K7.out
             clear hK K
             clear hHeld
             have hHeld := hHeld2
             clear hHeld2
             try simp only [Act.put, rg1, rg2, rg3]
             refine wpAnyH_done (by kernel_rfl) ?_ _
             have z3 : w7.cell? ⟨b17, 3, none⟩ = some (.slice Ac Q cc) := (K7.out.cell 3).trans rfl
             clear hb1 hb2 hb2' hb3 hb3' hbq hb6 HLN6 hHeld
             go_wp2_with fail
             go_loopg [130] Q (fun gg i wr => ∃ q2 : Nat, q2 <= Q /\ gg = Q - q2 /\ i = .int .i64 q2 /\ Hid (ShS T bb W1 ((g.f.code.drop q2).map (fun i => Item.ins i.op i.a i.b) ++ (L.fns.drop (k + 1)).flatMap (fun g : FuL => fuItems g.f)) wr))
             case atStart => exact ⟨0, by omega, rfl, rfl, HS7⟩
             case round =>
              obtain ⟨q2, hq2, rfl, rfl, HSi⟩ := hrel
              have HBi := Lib.hid (HBW.out wr HSi.out.b.1)
              clear z3
              by_cases hlt3 : q2 < Q
              ·
               obtain ⟨x, hc⟩ : ∃ x, g.f.code[q2]? = some x := ⟨_, List.getElem?_eq_getElem (by rw [HCO.out.2.2.2]; exact hlt3)⟩
               obtain ⟨bc, oc, rfl, hbc, hcc⟩ := HSC.out.2.at_ (by omega)
               have kc : ∀ j v, (inC x)[j]? = some v -> j < 3 -> wr.cell? ⟨bc, oc + q2 * 3 + j, none⟩ = some v := fun j v hv hj => by
                rw [Nat.add_assoc]
                exact (HBi.out.1.cell (p := ⟨bc, oc + (q2 * 3 + j), none⟩) hbc).trans (hcc _ _ (by rw [codC, flat_at inC 3 (fun _ => rfl) _ _ _ _ hc hj]; exact hv))
               have d0 : wr.cell? ⟨bc, oc + q2 * 3, none⟩ = some (.int .i8 x.op) := kc 0 _ rfl (by decide)
               have d1 : wr.cell? ⟨bc, oc + q2 * 3 + 1, none⟩ = some (.int .i64 x.a) := kc 1 _ rfl (by decide)
               have d2 : wr.cell? ⟨bc, oc + q2 * 3 + 2, none⟩ = some (.int .i64 x.b) := kc 2 _ rfl (by decide)
               obtain ⟨o1, o2, o3, o4⟩ := HCO.out.2.2.1 x (List.mem_of_getElem? hc)
               have HL2 := Lib.hid (show ShS T bb W1 (Item.ins x.op x.a x.b :: ((g.f.code.drop (q2 + 1)).map (fun i => Item.ins i.op i.a i.b) ++ (L.fns.drop (k + 1)).flatMap (fun g : FuL => fuItems g.f))) wr by have h := HSi.out; rw [drop_cons hc] at h; exact h)
               have HNM := Lib.hid (fun W (h : Below wr.heap.size wr W) => name_c x.op W o1 o2)
               have HN1 := Lib.hid (fun W (h : Below wr.heap.size wr W) => num_c x.a W o3 (HG.out.on (bl HBi.out.1 h)))
               have HN2 := Lib.hid (fun W (h : Below wr.heap.size wr W) => num_c x.b W o4 (HG.out.on (bl HBi.out.1 h)))
               have HN0 := Lib.hid (fun W (h : Below wr.heap.size wr W) => num_c x.op W (small_inR o1 (by omega)) (HG.out.on (bl HBi.out.1 h)))
               have wo : IntKind.i64.wrap x.op = x.op := IntWalk.i64_in _ ⟨by omega, by omega⟩
               unfold strV at HNM HN1 HN2 HN0
               have HOP := Lib.hid (And.intro o1 o2)
               clear hc hbc hcc kc o1 o2 o3 o4
               go_upto_region 42 with fail
               obtain ⟨b22, hb22⟩ : ∃ y, wr.heap.size = y := ⟨_, rfl⟩
               obtain ⟨Wb, hWb⟩ : ∃ X, wr.alloc (.cells #[.int .i8 x.op, .int .i64 x.a, .int .i64 x.b] 92) = X := ⟨_, rfl⟩
               have hbb1 : Below wr.heap.size wr Wb := by rw [<- hWb]; exact bal b0 _
               have kb22 : Blk Wb b22 92 #[.int .i8 x.op, .int .i64 x.a, .int .i64 x.b] := by rw [<- hWb, <- hb22]; exact Blk.new _ _ _
               rw [hWb, hb22]
               have HB22 := Lib.hid (show Below wr.heap.size wr Wb /\ Blk Wb b22 92 #[.int .i8 x.op, .int .i64 x.a, .int .i64 x.b] /\ b22 ≠ bb from ⟨hbb1, kb22, by have := HSi.out.b.2; omega⟩)
               have HK22 := Lib.hid (show ∀ W, Below Wb.heap.size Wb W -> Blk W b22 92 #[.int .i8 x.op, .int .i64 x.a, .int .i64 x.b] from fun W h => HB22.out.2.1.below h HB22.out.2.1.lt)
               have HSb := Lib.hid (show ∀ W, Blk W b22 92 #[.int .i8 x.op, .int .i64 x.a, .int .i64 x.b] -> W.cell? ⟨b22, 1, none⟩ = some (.int .i64 x.a) /\ W.cell? ⟨b22, 2, none⟩ = some (.int .i64 x.b) from fun W h => ⟨(h.cell 1).trans rfl, (h.cell 2).trans rfl⟩)
               have g0 : Wb.cell? ⟨b22, 0, none⟩ = some (.int .i8 x.op) := (kb22.cell 0).trans rfl
               clear hbb1 kb22 hWb hb22 d0 d1 d2
               obtain ⟨nv, hnv⟩ : ∃ nv, nameV x.op = nv := ⟨_, rfl⟩
               rw [hnv] at HNM
               cases nv with
               | nil =>
                have HOW2 := Lib.hid (show opW x.op = 35 :: Lib.itoa x.op by unfold opW; rw [if_pos hnv])
                have hcat : (⟨#[35]⟩ ++ ⟨(Lib.itoa x.op).toArray⟩ : ByteArray) = ⟨(35 :: Lib.itoa x.op).toArray⟩ := cat_bytes [35] (Lib.itoa x.op)
                have hsum : ∀ W, (Op.stringOp .add ⟨#[35]⟩ ⟨(Lib.itoa x.op).toArray⟩).run Tryz.prog W = .ok (.string ⟨(35 :: Lib.itoa x.op).toArray⟩) W := fun W => by
                 rw [<- hcat]
                 exact run_string_add_sum W _ _ (by have := itoa_len (small_inR HOP.out.1 (by have := HOP.out.2; omega)); have hz := str_size (Lib.itoa x.op); show 1 + _ <= _; omega)
                clear hnv hcat
                go_wp2_with fail
                (refine (HNM.out _ HB22.out.1).mono ?_); rintro ev w4 ⟨rfl, hb4⟩
                have g1 : w4.cell? ⟨b22, 0, none⟩ = some (.int .i8 x.op) := ((HK22.out _ hb4).cell 0).trans rfl
                have HB4 := Lib.hid hb4
                clear hb4
                go_wp2_with fail
                (refine (HN0.out _ (bl HB22.out.1 HB4.out)).mono ?_); rintro ev w5 ⟨rfl, hb5⟩
                have hb0 := bdr (bl HB4.out hb5) 1
                clear hb5
                go_upto_region 45 with fail
                refine wp_region_held_drew (S := (fun W' => W'.cell? ⟨b22, 1, none⟩ = some (.int .i64 x.a) /\ W'.cell? ⟨b22, 2, none⟩ = some (.int .i64 x.b))) (by kernel_rfl) ?ss22 (fun hHeld => ?rr22)
                case ss22 => (try dsimp only); exact HSb.out _ (HK22.out _ hb0)
                refine rgt 0 144 rfl rfl hHeld ?_
                try simp only [Act.put, rg1, rg2, rg3]
                refine rgt 1 145 rfl rfl hHeld ?_
                try simp only [Act.put, rg1, rg2, rg3]
                refine rgt 2 146 rfl rfl hHeld ?_
                try simp only [Act.put, rg1, rg2, rg3]
                refine rgt 3 147 rfl rfl hHeld ?_
                try simp only [Act.put, rg1, rg2, rg3]
                refine rgt 5 149 rfl rfl hHeld ?_
                try simp only [Act.put, rg1, rg2, rg3]
                refine rgt 6 150 rfl rfl hHeld ?_
                try simp only [Act.put, rg1, rg2, rg3]
                refine rgc 4 (some 148) rfl (fun K hK => ?_)
                go_simp
                ((refine (HN1.out _ (bl HB22.out.1 hb0)).mono ?_); rintro e w6 ⟨rfl, hb6'⟩; have hb6 := bl hb0 hb6')
                refine hK.out _ _ ?ss29 (fun hHeld2 => ?rr29)
                case ss29 => (try dsimp only); exact HSb.out _ (HK22.out _ hb6)
                clear hK K
                clear hHeld
                have hHeld := hHeld2
                clear hHeld2
                try simp only [Act.put, rg1, rg2, rg3]
                refine rgc 7 (some 151) rfl (fun K hK => ?_)
                go_simp
                ((refine (HN2.out _ (bl HB22.out.1 hb6)).mono ?_); rintro e w8 ⟨rfl, hb8'⟩; have hb8 := bl hb6 hb8')
                refine hK.out _ _ ?ss30 (fun hHeld2 => ?rr30)
                case ss30 => (try dsimp only); exact HSb.out _ (HK22.out _ hb8)
                clear hK K
                clear hHeld
                have hHeld := hHeld2
                clear hHeld2
                try simp only [Act.put, rg1, rg2, rg3]
                refine rgc 8 (some 152) rfl (fun K hK => ?_)
                go_simp
                go_simp; have hln : Calls Tryz.prog 31 #[.slice (some ⟨w8.heap.size, 0, none⟩) 4 4, .pointer (some ⟨bb, 0, none⟩)] (w8.alloc (.cells #[.string ⟨#[]⟩, .string ⟨(35 :: Lib.itoa x.op).toArray⟩, .string ⟨(Lib.itoa x.a).toArray⟩, .string ⟨(Lib.itoa x.b).toArray⟩] 9)) (fun e w' => e = .returned (.tuple #[]) /\ ShS T bb W1 ((g.f.code.drop (q2 + 1)).map (fun i => Item.ins i.op i.a i.b) ++ (L.fns.drop (k + 1)).flatMap (fun g : FuL => fuItems g.f)) w' /\ Lib.OthersKept U8 (some bb) (w8.alloc (.cells #[.string ⟨#[]⟩, .string ⟨(35 :: Lib.itoa x.op).toArray⟩, .string ⟨(Lib.itoa x.a).toArray⟩, .string ⟨(Lib.itoa x.b).toArray⟩] 9)) w') := (by refine ShS.line HL2.out (bal (bl HB22.out.1 hb8) _) (HL2.out.up (bal (bl HB22.out.1 hb8) _)) (ws := itemWs (Item.ins x.op x.a x.b)) rfl rfl ?_ (Nat.le_refl 4) HT.out.1; have h := Sl.row w8 [.string ⟨#[]⟩, .string ⟨(35 :: Lib.itoa x.op).toArray⟩, .string ⟨(Lib.itoa x.a).toArray⟩, .string ⟨(Lib.itoa x.b).toArray⟩] 9; simpa [itemWs, envC, strV, HOW2.out] using h); have HLN := Lib.hid hln; clear hln
                refine hK.out _ _ ?ss31 (fun hHeld2 => ?rr31)
                case ss31 => (try dsimp only); exact HSb.out _ (HK22.out _ (bal hb8 _))
                clear hK K
                clear hHeld
                have hHeld := hHeld2
                clear hHeld2
                try simp only [Act.put, rg1, rg2, rg3]
                refine rgc 9 (some 153) rfl (fun K hK => ?_)
                go_simp
                ((refine HLN.out.mono ?_); rintro e w9 ⟨rfl, hs9, hk9⟩; have K9 := Lib.hid (kept_blk hk9 (HK22.out _ (bal hb8 _)) HB22.out.2.2 (by decide)); have HS9 := Lib.hid hs9; clear hs9 hk9)
                refine hK.out _ _ ?ss32 (fun hHeld2 => ?rr32)
                case ss32 => (try dsimp only); exact HSb.out _ K9.out
                clear hK K
                clear hHeld
                have hHeld := hHeld2
                clear hHeld2
                try simp only [Act.put, rg1, rg2, rg3]
                refine wpAnyH_done (by kernel_rfl) ?_ _
                clear hHeld hb0 hb6 hb6' hb8 hb8' HLN
                go_wp2_with fail
                go_roundg (Q - (q2 + 1))
                case measure => omega
                case rel => exact ⟨q2 + 1, by omega, rfl, by go_num, HS9⟩
               | cons c0 cr =>
                have HOW2 := Lib.hid (show opW x.op = c0 :: cr by unfold opW; rw [if_neg (by rw [hnv]; simp), hnv])
                clear hnv
                go_wp2_with fail
                (refine (HNM.out _ HB22.out.1).mono ?_); rintro ev w4 ⟨rfl, hb4⟩
                have hb0 := bdr hb4 1
                clear hb4
                go_upto_region 45 with fail
                refine wp_region_held_drew (S := (fun W' => W'.cell? ⟨b22, 1, none⟩ = some (.int .i64 x.a) /\ W'.cell? ⟨b22, 2, none⟩ = some (.int .i64 x.b))) (by kernel_rfl) ?ss33 (fun hHeld => ?rr33)
                case ss33 => (try dsimp only); exact HSb.out _ (HK22.out _ hb0)
                refine rgt 0 144 rfl rfl hHeld ?_
                try simp only [Act.put, rg1, rg2, rg3]
                refine rgt 1 145 rfl rfl hHeld ?_
                try simp only [Act.put, rg1, rg2, rg3]
                refine rgt 2 146 rfl rfl hHeld ?_
                try simp only [Act.put, rg1, rg2, rg3]
                refine rgt 3 147 rfl rfl hHeld ?_
                try simp only [Act.put, rg1, rg2, rg3]
                refine rgt 5 149 rfl rfl hHeld ?_
                try simp only [Act.put, rg1, rg2, rg3]
                refine rgt 6 150 rfl rfl hHeld ?_
                try simp only [Act.put, rg1, rg2, rg3]
                refine rgc 4 (some 148) rfl (fun K hK => ?_)
                go_simp
                ((refine (HN1.out _ (bl HB22.out.1 hb0)).mono ?_); rintro e w6 ⟨rfl, hb6'⟩; have hb6 := bl hb0 hb6')
                refine hK.out _ _ ?ss40 (fun hHeld2 => ?rr40)
                case ss40 => (try dsimp only); exact HSb.out _ (HK22.out _ hb6)
                clear hK K
                clear hHeld
                have hHeld := hHeld2
                clear hHeld2
                try simp only [Act.put, rg1, rg2, rg3]
                refine rgc 7 (some 151) rfl (fun K hK => ?_)
                go_simp
                ((refine (HN2.out _ (bl HB22.out.1 hb6)).mono ?_); rintro e w8 ⟨rfl, hb8'⟩; have hb8 := bl hb6 hb8')
                refine hK.out _ _ ?ss41 (fun hHeld2 => ?rr41)
                case ss41 => (try dsimp only); exact HSb.out _ (HK22.out _ hb8)
                clear hK K
                clear hHeld
                have hHeld := hHeld2
                clear hHeld2
                try simp only [Act.put, rg1, rg2, rg3]
                refine rgc 8 (some 152) rfl (fun K hK => ?_)
                go_simp
                go_simp; have hln : Calls Tryz.prog 31 #[.slice (some ⟨w8.heap.size, 0, none⟩) 4 4, .pointer (some ⟨bb, 0, none⟩)] (w8.alloc (.cells #[.string ⟨#[]⟩, .string ⟨(c0 :: cr).toArray⟩, .string ⟨(Lib.itoa x.a).toArray⟩, .string ⟨(Lib.itoa x.b).toArray⟩] 9)) (fun e w' => e = .returned (.tuple #[]) /\ ShS T bb W1 ((g.f.code.drop (q2 + 1)).map (fun i => Item.ins i.op i.a i.b) ++ (L.fns.drop (k + 1)).flatMap (fun g : FuL => fuItems g.f)) w' /\ Lib.OthersKept U8 (some bb) (w8.alloc (.cells #[.string ⟨#[]⟩, .string ⟨(c0 :: cr).toArray⟩, .string ⟨(Lib.itoa x.a).toArray⟩, .string ⟨(Lib.itoa x.b).toArray⟩] 9)) w') := (by refine ShS.line HL2.out (bal (bl HB22.out.1 hb8) _) (HL2.out.up (bal (bl HB22.out.1 hb8) _)) (ws := itemWs (Item.ins x.op x.a x.b)) rfl rfl ?_ (Nat.le_refl 4) HT.out.1; have h := Sl.row w8 [.string ⟨#[]⟩, .string ⟨(c0 :: cr).toArray⟩, .string ⟨(Lib.itoa x.a).toArray⟩, .string ⟨(Lib.itoa x.b).toArray⟩] 9; simpa [itemWs, envC, strV, HOW2.out] using h); have HLN := Lib.hid hln; clear hln
                refine hK.out _ _ ?ss42 (fun hHeld2 => ?rr42)
                case ss42 => (try dsimp only); exact HSb.out _ (HK22.out _ (bal hb8 _))
                clear hK K
                clear hHeld
                have hHeld := hHeld2
                clear hHeld2
                try simp only [Act.put, rg1, rg2, rg3]
                refine rgc 9 (some 153) rfl (fun K hK => ?_)
                go_simp
                ((refine HLN.out.mono ?_); rintro e w9 ⟨rfl, hs9, hk9⟩; have K9 := Lib.hid (kept_blk hk9 (HK22.out _ (bal hb8 _)) HB22.out.2.2 (by decide)); have HS9 := Lib.hid hs9; clear hs9 hk9)
                refine hK.out _ _ ?ss43 (fun hHeld2 => ?rr43)
                case ss43 => (try dsimp only); exact HSb.out _ K9.out
                clear hK K
                clear hHeld
                have hHeld := hHeld2
                clear hHeld2
                try simp only [Act.put, rg1, rg2, rg3]
                refine wpAnyH_done (by kernel_rfl) ?_ _
                clear hHeld hb0 hb6 hb6' hb8 hb8' HLN
                go_wp2_with fail
                go_roundg (Q - (q2 + 1))
                case measure => omega
                case rel => exact ⟨q2 + 1, by omega, rfl, by go_num, HS9⟩
              ·
               obtain rfl : q2 = Q := by omega
               have hs8 : ShS T bb W1 ((L.fns.drop (k + 1)).flatMap (fun g : FuL => fuItems g.f)) wr := by
                have h := HSi.out
                rw [<- HCO.out.2.2.2, List.drop_length] at h
                exact h
               have HS8 := Lib.hid hs8
               clear hs8
               go_wp2_with fail
               go_roundg (n1 - (k + 1))
               case measure => omega
               case rel => exact ⟨k + 1, by omega, rfl, by go_num, HS8⟩
          ·
           obtain rfl : k = n1 := by omega
           obtain ⟨out, ho1, ho2, ho3, ho4⟩ : ShS T bb W1 [] wr := by
            have h := HSt.out
            rw [<- HN.out.1, List.drop_length] at h
            exact h
           have hout : out = T := by simpa [showI] using ho1
           subst hout
           have HO3 := Lib.hid (HBW.out wr ho3).1
           have hlt3 := (pen_lt ho2).2
           have HSZ := Lib.hid (show w.heap.size <= bb /\ w.heap.size <= wr.heap.size from ⟨by have := HB.out.1; omega, HO3.out.size⟩)
           by_cases hne : out = []
           ·
            have hPS := Lib.hid (pen_empty bb wr (ho4 hne))
            subst hne
            clear ho1 ho2 ho3 ho4 hlt3
            go_wp2_with fail
            (refine hPS.out.mono ?_); rintro ev w3 ⟨rfl, hb3⟩
            have HB3 := Lib.hid hb3
            clear hb3
            go_wp2_with fail
            go_ret
            exact ⟨rfl, HO3.out.trans (HB3.out.mono HSZ.out.2)⟩
           ·
            have hPS := Lib.hid (pen_string bb bb out wr ho2 hne)
            clear ho1 ho2 ho3 ho4 hlt3 hne
            go_wp2_with fail
            (refine hPS.out.mono ?_); rintro ev w3 ⟨rfl, hb3⟩
            have HB3 := Lib.hid hb3
            clear hb3
            go_wp2_with fail
            go_ret
            exact ⟨rfl, HO3.out.trans (HB3.out.mono HSZ.out.1)⟩
end Go.Proofs.YtobplngonkdbpaaGreatDoor.D
