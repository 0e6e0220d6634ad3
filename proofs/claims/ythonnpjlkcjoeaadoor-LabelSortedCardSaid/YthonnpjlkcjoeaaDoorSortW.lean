/- Contract: Sorted, by the program. -/
import Derived.Test.YthonnpjlkcjoeaaDoorSortR
import Derived.Test.YthonnpjlkcjoeaaDoorLabelA
import Derived.Test.YthonnpjlkcjoeaaDoorBagAZ
import Derived.Shelf.SlSortCmp.NoneTotal
namespace Go.Proofs.YthonnpjlkcjoeaaDoor.La
open Go.RowKit Go.Proofs.YthonnpjlkcjoeaaDoor.B Go.Op Go.Lib
open Go.Sort (grow grow_empty grow_grow alloc_eq_grow SWO PermIn SortedIn)
open Go.Shelf
set_option linter.unusedSimpArgs false
set_option linter.unusedVariables false

theorem infoPl : (Tryd.prog.info? 86).map (fun i => (i.zero, i.size, i.bytes)) = some (some (.agg #[.string ⟨#[]⟩, .string ⟨#[]⟩, .int .i64 0, .int .i64 0, .int .i64 0, .int .i64 0]), 6, 64) := by kernel_rfl
theorem infoInt : (Tryd.prog.info? 3).map (fun i => (i.zero, i.size, i.bytes)) = some (some (.int .i64 0), 1, 8) := by kernel_rfl

theorem Sl.oneK (w : World) (vs : List Value) (T : TypeId) : Sl (w.alloc (.cells vs.toArray T)) (w.heap.size + 1) vs.length (some ⟨w.heap.size, 0, none⟩) 1 vs := by
  refine ⟨by simp, .inr ⟨w.heap.size, 0, rfl, by omega, fun j u hu => ?_⟩⟩
  rw [Nat.zero_add]
  simp [hu]

/-- What was laid holds placed sites. -/
theorem holdsP {W : World} {base g n cap : Nat} {L : List (Site × Int)} (h : W.ownsRow base 86 6 (.slice (some ⟨g, 0, none⟩) n cap) n (cellsP L)) (hn : L.length = n) : _root_.Go.Sort.HoldsK encP 6 W g 0 L.toArray := by
  intro t ht
  rw [_root_.Go.Sort.size_flatK] at ht
  have ht' : t < L.length * 6 := by simpa using ht
  have hq : t / 6 < L.length := by omega
  have hx : L[t / 6]? = some L[t / 6] := List.getElem?_eq_getElem hq
  have h1 := cellsP_at L (t / 6) _ (t % 6) hx (Nat.mod_lt _ (by omega))
  rw [show t / 6 * 6 + t % 6 = t by omega] at h1
  have hl : (encP L[t / 6]).length = 6 := rfl
  have h2 : (encP L[t / 6])[t % 6]? = some ((encP L[t / 6])[t % 6]'(by omega)) := List.getElem?_eq_getElem (by omega)
  rw [h2] at h1
  have h3 := h.cells (g := g) rfl t _ h1
  rw [add_flat] at h3
  refine ⟨?_, ?_⟩
  · rw [h3, _root_.Go.Sort.get_flatK _ _ _ _ ht]
    congr 1
    have e1 : (L.toArray)[t / 6]! = L[t / 6] := by simp [hq]
    rw [e1]
    simp [hl, Nat.mod_lt]
  · rcases h.2 with ⟨e, _⟩ | ⟨g', cap', cur, e, _, hg, _⟩
    · cases e
    · injection e with e1 _ _
      injection e1 with e1
      injection e1 with e1
      subst e1
      simp [World.frozen?, hg]

set_option maxRecDepth 100000 in
set_option maxHeartbeats 2000000 in
theorem sorted_any (l : List Site) (A : Option Addr) (c : Nat) (w : World) (hl : l.length ≤ 2048) (hA : Sl w w.heap.size 5 A l.length (cells l)) :
    Calls Tryd.prog 24 #[.slice A l.length c] w fun e w' => ∃ v, e = .returned v ∧ w'.ownsRow w.heap.size 3 1 v l.length ((byIns (siteOf l) l.length).map fun (k : Nat) => Value.int .i64 (k : Int)) ∧ Below w.heap.size w w' := by
  obtain ⟨i0, hi0, hz0, hz1, hz2⟩ := info_parts3 infoPl
  have HA := Lib.hid fun (W : World) (h : Below w.heap.size w W) => hA.below h
  clear hA
  go_enter Tryd.func24, Tryd.ntmps24
  go_wp2_with fail
  go_loopg [3, 11] l.length (fun q v i wr => ∃ k : Nat, k ≤ l.length ∧ q = l.length - k ∧ i = .int .i64 k ∧ wr.ownsRow w.heap.size 86 6 v k (cellsP ((placedL l).take k)) ∧ Below w.heap.size w wr)
  case atStart => exact ⟨0, by omega, rfl, rfl, World.ownsRow_nil _ _ _ _, Below.refl _ _⟩
  case round =>
    obtain ⟨k, hk, rfl, rfl, ho, hb⟩ := hrel
    obtain ⟨Av, cv, rfl, hv1, hv2⟩ := own_shape ho
    by_cases hlt : k < l.length
    · obtain ⟨s, hs⟩ : ∃ s, l[k]? = some s := ⟨_, List.getElem?_eq_getElem hlt⟩
      obtain ⟨bb, o, rfl, hbb, c0, c1, c2, c3, c4⟩ := site_cells (HA.out _ hb) hs
      have HO := Lib.hid ho
      have HN := Lib.hid (cellsP_next hs)
      clear ho hs
      have hl0 : ((wr.alloc (.cells #[.string s.mo, .string s.ex, .int .i64 s.li, .int .i64 s.co, .int .i64 s.ru] 31)).alloc (.cells #[Value.string s.mo, .string s.ex, .int .i64 s.li, .int .i64 s.co, .int .i64 s.ru, .int .i64 ((k : Int) + 1)] 86)).ownsRow w.heap.size 86 6 (.slice Av k cv) k (cellsP ((placedL l).take k)) :=
        World.ownsRow.alloc (World.ownsRow.alloc HO.out _) _
      have s1 : ∀ u ∈ [Value.string s.mo, .string s.ex, .int .i64 s.li, .int .i64 s.co, .int .i64 s.ru, .int .i64 ((k : Int) + 1)], u.oneCell' = true := by
        intro u hu; simp at hu; rcases hu with rfl | rfl | rfl | rfl | rfl | rfl <;> rfl
      have s2 : k + 1 ≤ maxLen := by unfold maxLen; omega
      have s3 : (k + 1) * 64 ≤ 140737488355328 := by omega
      have s4 : w.heap.size ≤ ((wr.alloc (.cells #[.string s.mo, .string s.ex, .int .i64 s.li, .int .i64 s.co, .int .i64 s.ru] 31)).alloc (.cells #[Value.string s.mo, .string s.ex, .int .i64 s.li, .int .i64 s.co, .int .i64 s.ru, .int .i64 ((k : Int) + 1)] 86)).heap.size := by have := hb.size; simp; omega
      have s5 := Sl.oneK (wr.alloc (.cells #[.string s.mo, .string s.ex, .int .i64 s.li, .int .i64 s.co, .int .i64 s.ru] 31)) ([Value.string s.mo, .string s.ex, .int .i64 s.li, .int .i64 s.co, .int .i64 s.ru, .int .i64 ((k : Int) + 1)]) 86
      have e5 : (wr.alloc (.cells #[.string s.mo, .string s.ex, .int .i64 s.li, .int .i64 s.co, .int .i64 s.ru] 31)).heap.size = wr.heap.size + 1 := by simp
      rw [e5] at s5
      have S1 := Lib.hid s1
      have S4 := Lib.hid s4
      have S5 := Lib.hid s5
      have L0 := Lib.hid hl0
      clear s1 s4 s5 hl0 e5
      go_wp2_with (at_builtin; refine wpList_append_sl _ rfl (.tmp 16) (.tmp 21) 84 rfl w.heap.size 86 i0 _ 6 64 Tryd.underlying84 hi0 hz0 hz1 hz2 rfl (by omega) _ k _ rfl L0.out _ _ 1 1 ([Value.string s.mo, .string s.ex, .int .i64 s.li, .int .i64 s.co, .int .i64 s.ru, .int .i64 ((k : Int) + 1)]) rfl S5.out S1.out s2 s3 S4.out ?_)
      intro v1 w1 hown1 hg1 hat1
      have hb1 : Below w.heap.size w w1 := (((hb.alloc hb.size _).alloc (by have := hb.size; simp; omega) _).grown hg1 S4.out (fun g hg => (HO.out.lt g hg).1))
      clear S1 S4 S5 L0 hg1 hat1
      go_wp2_with fail
      go_roundg (l.length - (k + 1))
      case measure => omega
      case rel => exact ⟨k + 1, by omega, rfl, by go_num, by rw [HN.out]; exact hown1, hb1⟩
    · obtain rfl : k = l.length := by omega
      rw [List.take_of_length_le (by rw [placed_len]; exact Nat.le_refl _)] at ho
      obtain ⟨j0, hj0, hz0', hz1', hz2'⟩ := info_parts3 infoInt
      by_cases h0 : l.length = 0
      · have hN := AnyF.slices_SortFunc_none Tryd.sortP Av cv (.func (.func 48) #[] #[]) wr
        change Calls Tryd.prog 47 _ _ _ at hN
        rw [h0] at ho ⊢
        have HN := Lib.hid hN
        clear hN ho
        go_wp2_with fail
        refine HN.out.mono ?_
        rintro e w1 ⟨rfl, rfl⟩
        go_wp2_with fail
        go_loopg [6, 28] 0 (fun q v i W => q = 0 ∧ v = .slice none 0 0 ∧ i = .int .i64 0 ∧ w1 = W)
        case atStart => exact ⟨rfl, rfl, rfl, rfl⟩
        case round =>
          obtain ⟨rfl, rfl, rfl, rfl⟩ := hrel
          go_wp2_with fail
          go_ret
          exact ⟨.slice none 0 0, rfl, by rw [h0]; exact World.ownsRow_nil _ _ _ _, hb⟩
      · obtain ⟨g, cap, hv, hbg, hlt⟩ := ho.form (by omega)
        injection hv with hA _ hc
        subst hA hc
        have hH := holdsP ho (placed_len l)
        have hd : (placedL l).toArray.size = l.length := by simp [placed_len]
        have eg : ∀ args w, (callFunc 48 args).run Tryd.prog w = .ok (.enter 48 args) w := enters_of Tryd.func48 (by kernel_rfl) rfl
        have hcon := AnyQ.slices_SortFunc Tryd.sortP 6 Tryd.isAgg86 Tryd.sizeOf86 encP (fun _ => rfl) (fun x v hv => by simp [encP] at hv; rcases hv with rfl | rfl | rfl | rfl | rfl | rfl <;> rfl) cmpP swoP 48 #[] g 0 cv (placedL l).toArray wr eg (cmpLaysP g 0 (placedL l).toArray.size wr) hH hlt (by rw [hd]; omega)
        change Calls Tryd.prog 47 _ _ _ at hcon
        rw [hd] at hcon
        have HC := Lib.hid hcon
        have HH := Lib.hid hH
        have HD := Lib.hid hd
        clear hcon hH eg ho hd
        go_wp2_with fail
        refine HC.out.mono ?_
        rintro e w1 ⟨rfl, d', n, os, hp, hs, hw1⟩
        have hds : d'.size = l.length := hp.1.trans HD.out
        have hH' := _root_.Go.Proofs.holdsK_sortWorldK_c encP 6 wr g 0 (placedL l).toArray d' n os HH.out hlt hp.1
        have hbut := sortW_below wr g 0 n d' os
        rw [← hw1] at hH' hbut
        have hbw : Below w.heap.size w w1 := hb.trans (hbut.below hb.size fun k hk => by rw [hk]; exact hbg)
        have hlt1 : g < w1.heap.size := Nat.lt_of_lt_of_le hlt hbut.size
        have hlab : d'.toList.map (·.2) = (byIns (siteOf l) l.length).map fun (k : Nat) => (k : Int) := by
          refine sort_labels ?_ ?_
          · have h3 := hp.2.2
            rw [show (d'.extract 0 l.length) = d' by rw [← hds]; simp, show ((placedL l).toArray.extract 0 l.length) = (placedL l).toArray by rw [← HD.out]; simp] at h3
            simpa using h3
          · rw [List.pairwise_iff_getElem]
            intro i j hi hj hij
            have hi' : i < d'.size := by simpa using hi
            have hj' : j < d'.size := by simpa using hj
            have h3 := hs i j (Nat.zero_le _) hij (by rw [← hds]; exact hj')
            rw [ltOf_pLt, getElem!_pos d' j hj', getElem!_pos d' i hi'] at h3
            simpa using h3
        have hcells : ∀ W, Below w1.heap.size w1 W → ∀ k x, d'[k]? = some x → W.cell? ⟨g, k * 6, none⟩ = some (.string x.1.mo) ∧ W.cell? ⟨g, k * 6 + 1, none⟩ = some (.string x.1.ex) ∧ W.cell? ⟨g, k * 6 + 2, none⟩ = some (.int .i64 x.1.li) ∧
            W.cell? ⟨g, k * 6 + 3, none⟩ = some (.int .i64 x.1.co) ∧ W.cell? ⟨g, k * 6 + 4, none⟩ = some (.int .i64 x.1.ru) ∧ W.cell? ⟨g, k * 6 + 5, none⟩ = some (.int .i64 x.2) := by
          intro W hW k x hx
          obtain ⟨hk, hx⟩ := Array.getElem?_eq_some_iff.1 hx
          have e : d'[k]! = x := by rw [getElem!_pos d' k hk]; exact hx
          have g0 : ∀ c, c < 6 → W.cell? ⟨g, k * 6 + c, none⟩ = some (encP x)[c]! := fun c hc => by
            have h3 := (hH'.cell hk hc).1
            rw [Nat.zero_add, e] at h3
            exact (hW.cell (p := ⟨g, k * 6 + c, none⟩) hlt1).trans h3
          exact ⟨g0 0 (by omega), g0 1 (by omega), g0 2 (by omega), g0 3 (by omega), g0 4 (by omega), g0 5 (by omega)⟩
        have hvals : ((byIns (siteOf l) l.length).map fun (k : Nat) => Value.int .i64 (k : Int)) = d'.toList.map fun x => Value.int .i64 x.2 := by
          have := congrArg (List.map (Value.int .i64)) hlab
          rw [List.map_map, List.map_map] at this
          exact this.symm
        have HV := Lib.hid hvals
        have HCL := Lib.hid hcells
        have HDS := Lib.hid hds
        clear hH' hbut hlab hcells hvals hp hs hw1 HC HH HD hds hb
        go_wp2_with fail
        go_loopg [6, 28] l.length (fun q v i W => ∃ k : Nat, k ≤ l.length ∧ q = l.length - k ∧ i = .int .i64 k ∧ W.ownsRow w1.heap.size 3 1 v k ((d'.toList.take k).map fun x => Value.int .i64 x.2) ∧ Below w1.heap.size w1 W)
        case atStart => exact ⟨0, by omega, rfl, rfl, World.ownsRow_nil _ _ _ _, Below.refl _ _⟩
        case round =>
          obtain ⟨k, hk, rfl, rfl, ho, hb⟩ := hrel
          obtain ⟨Ao, co, rfl, ho1, ho2⟩ := own_shape ho
          by_cases hkl : k < l.length
          · obtain ⟨x, hx⟩ : ∃ x, d'[k]? = some x := ⟨_, Array.getElem?_eq_getElem (by rw [HDS.out]; exact hkl)⟩
            obtain ⟨c0, c1, c2, c3, c4, c5⟩ := HCL.out _ hb k x hx
            have htk : (d'.toList.take (k + 1)).map (fun x => Value.int .i64 x.2) = (d'.toList.take k).map (fun x => Value.int .i64 x.2) ++ [.int .i64 x.2] := by
              rw [List.take_add_one, Array.getElem?_toList, hx]; simp
            obtain ⟨⟨mo, ex, li, cc, ru⟩, lb⟩ := x
            simp only at c0 c1 c2 c3 c4 c5 htk
            have HO := Lib.hid ho
            have HTK := Lib.hid htk
            have hsz := hb.size
            have hszw := hbw.size
            have hl0 : ((wr.alloc (.cells #[.string mo, .string ex, .int .i64 li, .int .i64 cc, .int .i64 ru, .int .i64 lb] 86)).alloc (.cells #[.int .i64 lb] 3)).ownsRow w1.heap.size 3 1 (.slice Ao k co) k ((d'.toList.take k).map fun x => Value.int .i64 x.2) :=
              World.ownsRow.alloc (World.ownsRow.alloc ho _) _
            have s1 : ∀ u ∈ [Value.int .i64 lb], u.oneCell' = true := by intro u hu; simp at hu; subst hu; rfl
            have s2 : k + 1 ≤ maxLen := by unfold maxLen; omega
            have s3 : (k + 1) * 8 ≤ 140737488355328 := by omega
            have s4 : w1.heap.size ≤ ((wr.alloc (.cells #[.string mo, .string ex, .int .i64 li, .int .i64 cc, .int .i64 ru, .int .i64 lb] 86)).alloc (.cells #[.int .i64 lb] 3)).heap.size := by simp; omega
            have s5 := Sl.one (wr.alloc (.cells #[.string mo, .string ex, .int .i64 li, .int .i64 cc, .int .i64 ru, .int .i64 lb] 86)) (.int .i64 lb) 3
            have e5 : (wr.alloc (.cells #[.string mo, .string ex, .int .i64 li, .int .i64 cc, .int .i64 ru, .int .i64 lb] 86)).heap.size = wr.heap.size + 1 := by simp
            rw [e5] at s5
            have S1 := Lib.hid s1
            have S4 := Lib.hid s4
            have S5 := Lib.hid s5
            have L0 := Lib.hid hl0
            clear s1 s4 s5 hl0 e5 hx ho htk
            go_wp2_with (at_builtin; refine wpList_append_sl _ rfl (.tmp 32) (.tmp 35) 41 rfl w1.heap.size 3 j0 _ 1 8 Tryd.underlying41 hj0 hz0' hz1' hz2' rfl (by omega) _ k _ rfl L0.out _ _ 1 1 [.int .i64 lb] rfl S5.out S1.out s2 s3 S4.out ?_)
            intro v1 w2 hown1 hg1 hat1
            have hb1 : Below w1.heap.size w1 w2 := ((hb.alloc hb.size _).alloc (by simp; omega) _).grown hg1 (by simp; omega) (fun g hg => (HO.out.lt g hg).1)
            clear S1 S4 S5 L0 hg1 hat1
            go_wp2_with fail
            go_roundg (l.length - (k + 1))
            case measure => omega
            case rel => exact ⟨k + 1, by omega, rfl, by go_num, by rw [HTK.out, List.map_take]; exact hown1, hb1⟩
          · obtain rfl : k = l.length := by omega
            rw [List.take_of_length_le (by rw [Array.length_toList, HDS.out]; exact Nat.le_refl _)] at ho
            go_wp2_with fail
            go_ret
            exact ⟨_, rfl, by rw [HV.out]; exact own_less ho hbw.size, hbw.trans (hb.mono hbw.size)⟩
end Go.Proofs.YthonnpjlkcjoeaaDoor.La
