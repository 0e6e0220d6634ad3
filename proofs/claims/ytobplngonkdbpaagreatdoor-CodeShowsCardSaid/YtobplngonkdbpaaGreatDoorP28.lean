/- Parts of this claim: AnA, AnB, AnC, AnD, AnE, AnP, AnF, AnG, AnH, CgH. -/
import Derived.Laws.CopyOwn
import Derived.Test.YtobplngonkdbpaaGreatDoorP08
import Derived.Test.YtobplngonkdbpaaGreatDoorP05
import Derived.Test.YtobplngonkdbpaaGreatDoorP10
import Derived.Test.YtobplngonkdbpaaGreatDoorP03
import Derived.Test.YtobplngonkdbpaaGreatDoorP18
import Derived.Test.YtobplngonkdbpaaGreatDoorP25
set_option linter.unusedVariables false
set_option linter.unusedSimpArgs false
/- AnA -/
namespace Go.Proofs.YtobplngonkdbpaaGreatDoor.D
open Go.RowKit
open Go.Proofs.YtobplngonkdbpaaGreatDoor.B
set_option linter.unusedVariables false
set_option linter.unusedSimpArgs false
theorem digS_at (i : Nat) (h : i < (⟨#[48, 49, 50, 51, 52, 53, 54, 55, 56, 57, 97, 98, 99, 100, 101, 102]⟩ : ByteArray).size) : (⟨#[48, 49, 50, 51, 52, 53, 54, 55, 56, 57, 97, 98, 99, 100, 101, 102]⟩ : ByteArray)[i]'h = hexD i := by
 have key : ∀ j : Fin 16, (⟨#[48, 49, 50, 51, 52, 53, 54, 55, 56, 57, 97, 98, 99, 100, 101, 102]⟩ : ByteArray)[j.val]'(j.isLt) = hexD j.val := by decide
 exact key ⟨i, h⟩
/-- Bytes of one's own, in a world that went on from w0. -/
def OB (w0 : World) (W : World) (u : Value) (b : Bs) : Prop := W.ownsRow w0.heap.size 5 1 u b.length (Lib.byteCells b) /\ Below w0.heap.size w0 W
theorem OB.nil (w : World) : OB w w (.slice none 0 0) [] := ⟨World.ownsRow_nil _ _ _ _, Below.refl _ _⟩
theorem OB.on {w0 W W' : World} {u : Value} {b : Bs} (h : OB w0 W u b) (hb : Below W.heap.size W W') : OB w0 W' u b := ⟨own_below h.1 hb, bl h.2 hb⟩
theorem OB.app {w0 W W1 W2 : World} {u v : Value} {b c : Bs} (h : OB w0 W u b) (h1 : Below W.heap.size W W1) (ho : W2.ownsRow w0.heap.size 5 1 v (b.length + c.length) (Lib.byteCells b ++ Lib.byteCells c)) (hg : W1.grownBy W2 u.ownBlock) : OB w0 W2 v (b ++ c) := by
 refine ⟨by rw [List.length_append, Lib.byteCells_append]; exact ho, (bl h.2 h1).grown hg (by have := h1.size; have := h.2.size; omega) fun k hk => (h.1.lt k hk).1⟩
theorem Sl.many (w : World) (xs : List Value) (T : TypeId) (n : Nat) (h : xs.length = n) : Sl (w.alloc (.cells xs.toArray T)) (w.heap.size + 1) 1 (some ⟨w.heap.size, 0, none⟩) n xs := by
 refine ⟨by omega, .inr ⟨w.heap.size, 0, rfl, by simp, fun j u hu => ?_⟩⟩
 rw [Nat.zero_add, World.cell?_alloc_new]
 simpa using hu
set_option maxRecDepth 100000 in
set_option maxHeartbeats 2000000 in
theorem quoted_any (s : Bs) (w : World) (hl : s.length <= 1073741824) :
  Calls Tryz.prog 39 #[strV s] w fun e w' => e = .returned (strV (quoteL s)) /\ Below w.heap.size w w' := by
 obtain ⟨i0, hi0, hz0, hz1, hz2⟩ := info_parts Bd.infoU8
 have hsz := str_size s
 unfold strV
 have HO := Lib.hid (OB.nil w)
 go_enter Tryz.func39, Tryz.ntmps39
 go_wp2_with (at_builtin; refine wpList_append_sl _ rfl (.tmp 7) (.tmp 8) _ rfl w.heap.size 5 i0 _ 1 1 Tryz.underlying71 hi0 hz0 hz1 hz2 rfl (by omega) _ 0 [] rfl (HO.out.on (bal b0 _)).1 (w.heap.size + 1) (some ⟨w.heap.size, 0, none⟩) 1 1 [.int .u8 34] rfl (Sl.one w _ _) (fun u hu => by rw [List.mem_singleton.1 hu]; rfl) (by unfold maxLen; omega) (by omega) (by simp only [World.size_alloc]; omega) ?_; intro v' w2 hown2 hgrow _; have HO2 := Lib.hid (HO.out.app (c := [34]) (bal b0 _) hown2 hgrow); clear hown2 hgrow)
 go_loopg [4, 5] s.length (fun g u i wr => ∃ k : Nat, k <= s.length /\ g = s.length - k /\ i = .int .i64 k /\ Hid (OB w wr u (34 :: inner (s.take k))))
 case atStart => exact ⟨0, by omega, rfl, rfl, HO2⟩
 case round =>
  obtain ⟨k, hk, rfl, rfl, HP⟩ := hrel
  clear HO HO2
  have hin := inner_len (s.take k)
  have hinl : (s.take k).length <= s.length := by rw [List.length_take]; omega
  obtain ⟨AV, cV, rfl, hc1, hc2⟩ := own_shape HP.out.1
  have hln : (34 :: inner (s.take k)).length <= 4294967297 := by rw [List.length_cons]; omega
  by_cases hlt : k < s.length
  ·
   obtain ⟨x, hx⟩ : ∃ x, s[k]? = some x := ⟨_, List.getElem?_eq_getElem hlt⟩
   have hat := str_at hx (by rw [hsz]; exact hlt)
   have hx255 := x.toNat_lt
   have HE := Lib.hid (show ∀ c, escB x = c -> 34 :: inner (s.take k) ++ c = 34 :: inner (s.take (k + 1)) by rintro c rfl; rw [inner_take hx, List.cons_append])
   clear hx
   by_cases hpl : plainB x = true
   ·
    obtain ⟨f1, f2, f3, f4⟩ := plainB_iff.1 hpl
    have HE2 := Lib.hid (HE.out [x] (by rw [escB, if_pos hpl]))
    clear hpl HE
    have e1 : decide ((32 : Int) <= (x.toNat : Int)) = true := by simp; omega
    have e2 : decide ((x.toNat : Int) <= 126) = true := by simp; omega
    have e3 : ((x.toNat : Int) != 34) = true := by simp; omega
    have e4 : ((x.toNat : Int) != 92) = true := by simp; omega
    clear f1 f2 f3 f4
    go_wp2_with (at_builtin; refine wpList_append_sl _ rfl (.tmp 33) (.tmp 35) _ rfl w.heap.size 5 i0 _ 1 1 Tryz.underlying71 hi0 hz0 hz1 hz2 rfl (by omega) _ _ _ rfl (HP.out.on (bal b0 _)).1 (wr.heap.size + 1) (some ⟨wr.heap.size, 0, none⟩) 1 1 [.int .u8 x.toNat] rfl (Sl.one wr _ _) (fun u hu => by rw [List.mem_singleton.1 hu]; rfl) (by unfold maxLen; omega) (by omega) (by have := HP.out.2.size; simp only [World.size_alloc]; omega) ?_; intro v' w2 hown2 hgrow _; have HO2 := Lib.hid (HP.out.app (c := [x]) (bal b0 _) hown2 hgrow); clear hown2 hgrow)
    rw [HE2.out] at HO2
    go_roundg (s.length - (k + 1))
    case measure => omega
    case rel => exact ⟨k + 1, by omega, rfl, by go_num, HO2⟩
   ·
    have key : decide ((32 : Int) <= (x.toNat : Int)) = false \/ (decide ((32 : Int) <= (x.toNat : Int)) = true /\ decide ((x.toNat : Int) <= 126) = false) \/
      (decide ((32 : Int) <= (x.toNat : Int)) = true /\ decide ((x.toNat : Int) <= 126) = true /\ ((x.toNat : Int) != 34) = false) \/
      (decide ((32 : Int) <= (x.toNat : Int)) = true /\ decide ((x.toNat : Int) <= 126) = true /\ ((x.toNat : Int) != 34) = true /\ ((x.toNat : Int) != 92) = false) := by
     have hn : ¬ (32 <= x.toNat /\ x.toNat <= 126 /\ x.toNat ≠ 34 /\ x.toNat ≠ 92) := fun h => hpl (plainB_iff.2 h)
     simp only [decide_eq_true_eq, decide_eq_false_iff_not, bne_iff_ne, bne_eq_false_iff_eq, ne_eq]
     omega
    have HE2 := Lib.hid (HE.out [92, 120, hexD (x.toNat / 16), hexD (x.toNat % 16)] (by rw [escB, if_neg hpl]))
    clear hpl HE
    obtain ⟨a, ha⟩ : ∃ a, x.toNat / 16 = a := ⟨_, rfl⟩
    obtain ⟨b, hb⟩ : ∃ b, x.toNat % 16 = b := ⟨_, rfl⟩
    have ha16 : a < 16 := by omega
    have hb16 : b < 16 := by omega
    have n1 : IntKind.u8.wrap ((x.toNat : Int) / 16) = (a : Int) := by rw [IntKind.wrap_u8]; omega
    have n2 : IntKind.u8.wrap ((x.toNat : Int) % 16) = (b : Int) := by rw [IntKind.wrap_u8]; omega
    have n3 : (x.toNat : Int).tmod 16 = (b : Int) := by rw [Int.tmod_eq_emod_of_nonneg (by omega)]; omega
    have la : (a : Int) < 16 := by omega
    have lb : (b : Int) < 16 := by omega
    have d1 := digS_at a ha16
    have d2 := digS_at b hb16
    rw [ha, hb] at HE2
    clear ha hb
    rcases key with e1 | ⟨e1, e2⟩ | ⟨e1, e2, e3⟩ | ⟨e1, e2, e3, e4⟩
    ·
     go_upto_region 10 with fail
     refine wp_region_held_drew (S := (fun W' => Below w.heap.size w W')) (by kernel_rfl) ?ss1 (fun hHeld => ?rr1)
     case ss1 => (try dsimp only); exact bdr HP.out.2 1
     refine rgt 0 37 rfl rfl hHeld ?_
     try simp only [Act.put, rg1, rg2, rg3]
     refine rgt 1 38 rfl rfl hHeld ?_
     try simp only [Act.put, rg1, rg2, rg3]
     refine rgt 2 39 rfl rfl hHeld ?_
     try simp only [Act.put, rg1, rg2, rg3]
     refine rgt 3 40 rfl rfl hHeld ?_
     try simp only [Act.put, rg1, rg2, rg3]
     refine rgt 4 41 rfl rfl hHeld ?_
     try simp only [Act.put, rg1, rg2, rg3]
     refine rgt 5 42 rfl rfl hHeld ?_
     try simp only [Act.put, rg1, rg2, rg3]
     refine rgt 6 43 rfl rfl hHeld ?_
     try simp only [Act.put, rg1, rg2, rg3]
     refine rgt 7 44 rfl rfl hHeld ?_
     try simp only [Act.put, rg1, rg2, rg3]
     refine rgt 8 45 rfl rfl hHeld ?_
     try simp only [Act.put, rg1, rg2, rg3]
     refine rgc 9 (some 46) rfl (fun K hK => ?_)
     go_simp
     go_simp
     refine hK.out _ _ ?ss11 (fun hHeld2 => ?rr11)
     case ss11 => (try dsimp only); exact bal hHeld _
     clear hK K
     clear hHeld
     have hHeld := hHeld2
     clear hHeld2
     try simp only [Act.put, rg1, rg2, rg3]
     refine rgc 10 (some 47) rfl (fun K hK => ?_)
     (refine step_append_sl rfl (.tmp 37) (.tmp 46) _ rfl w.heap.size 5 i0 _ 1 1 Tryz.underlying71 hi0 hz0 hz1 hz2 rfl (by omega) _ _ _ rfl (HP.out.on (bal (bdr b0 1) _)).1 (wr.heap.size + 1) (some ⟨wr.heap.size, 0, none⟩) 4 4 [.int .u8 92, .int .u8 120, .int .u8 (hexD a).toNat, .int .u8 (hexD b).toNat] rfl (Sl.many wr.drew _ _ 4 rfl) (by intro u hu; simp only [List.mem_cons, List.not_mem_nil, or_false] at hu; rcases hu with rfl | rfl | rfl | rfl <;> rfl) (by unfold maxLen; omega) (by omega) (by have := HP.out.2.size; have := hHeld.size; omega) ?_; intro V' w6 hown6 hg6 hV6; have HO2 := Lib.hid (HP.out.app (c := [92, 120, hexD a, hexD b]) (bal (bdr b0 1) _) hown6 hg6); clear hown6 hg6 hV6)
     refine hK.out _ _ ?ss12 (fun hHeld2 => ?rr12)
     case ss12 => (try dsimp only); exact HO2.out.2
     clear hK K
     clear hHeld
     have hHeld := hHeld2
     clear hHeld2
     try simp only [Act.put, rg1, rg2, rg3]
     refine rgt 11 4 rfl rfl hHeld ?_
     try simp only [Act.put, rg1, rg2, rg3]
     refine wpAnyH_done (by kernel_rfl) ?_ _
     go_wp2_with fail
     rw [HE2.out] at HO2
     go_roundg (s.length - (k + 1))
     case measure => omega
     case rel => exact ⟨k + 1, by omega, rfl, by go_num, HO2⟩
    ·
     go_upto_region 10 with fail
     refine wp_region_held_drew (S := (fun W' => Below w.heap.size w W')) (by kernel_rfl) ?ss14 (fun hHeld => ?rr14)
     case ss14 => (try dsimp only); exact bdr HP.out.2 1
     refine rgt 0 37 rfl rfl hHeld ?_
     try simp only [Act.put, rg1, rg2, rg3]
     refine rgt 1 38 rfl rfl hHeld ?_
     try simp only [Act.put, rg1, rg2, rg3]
     refine rgt 2 39 rfl rfl hHeld ?_
     try simp only [Act.put, rg1, rg2, rg3]
     refine rgt 3 40 rfl rfl hHeld ?_
     try simp only [Act.put, rg1, rg2, rg3]
     refine rgt 4 41 rfl rfl hHeld ?_
     try simp only [Act.put, rg1, rg2, rg3]
     refine rgt 5 42 rfl rfl hHeld ?_
     try simp only [Act.put, rg1, rg2, rg3]
     refine rgt 6 43 rfl rfl hHeld ?_
     try simp only [Act.put, rg1, rg2, rg3]
     refine rgt 7 44 rfl rfl hHeld ?_
     try simp only [Act.put, rg1, rg2, rg3]
     refine rgt 8 45 rfl rfl hHeld ?_
     try simp only [Act.put, rg1, rg2, rg3]
     refine rgc 9 (some 46) rfl (fun K hK => ?_)
     go_simp
     go_simp
     refine hK.out _ _ ?ss24 (fun hHeld2 => ?rr24)
     case ss24 => (try dsimp only); exact bal hHeld _
     clear hK K
     clear hHeld
     have hHeld := hHeld2
     clear hHeld2
     try simp only [Act.put, rg1, rg2, rg3]
     refine rgc 10 (some 47) rfl (fun K hK => ?_)
     (refine step_append_sl rfl (.tmp 37) (.tmp 46) _ rfl w.heap.size 5 i0 _ 1 1 Tryz.underlying71 hi0 hz0 hz1 hz2 rfl (by omega) _ _ _ rfl (HP.out.on (bal (bdr b0 1) _)).1 (wr.heap.size + 1) (some ⟨wr.heap.size, 0, none⟩) 4 4 [.int .u8 92, .int .u8 120, .int .u8 (hexD a).toNat, .int .u8 (hexD b).toNat] rfl (Sl.many wr.drew _ _ 4 rfl) (by intro u hu; simp only [List.mem_cons, List.not_mem_nil, or_false] at hu; rcases hu with rfl | rfl | rfl | rfl <;> rfl) (by unfold maxLen; omega) (by omega) (by have := HP.out.2.size; have := hHeld.size; omega) ?_; intro V' w6 hown6 hg6 hV6; have HO2 := Lib.hid (HP.out.app (c := [92, 120, hexD a, hexD b]) (bal (bdr b0 1) _) hown6 hg6); clear hown6 hg6 hV6)
     refine hK.out _ _ ?ss25 (fun hHeld2 => ?rr25)
     case ss25 => (try dsimp only); exact HO2.out.2
     clear hK K
     clear hHeld
     have hHeld := hHeld2
     clear hHeld2
     try simp only [Act.put, rg1, rg2, rg3]
     refine rgt 11 4 rfl rfl hHeld ?_
     try simp only [Act.put, rg1, rg2, rg3]
     refine wpAnyH_done (by kernel_rfl) ?_ _
     go_wp2_with fail
     rw [HE2.out] at HO2
     go_roundg (s.length - (k + 1))
     case measure => omega
     case rel => exact ⟨k + 1, by omega, rfl, by go_num, HO2⟩
    ·
     go_upto_region 10 with fail
     refine wp_region_held_drew (S := (fun W' => Below w.heap.size w W')) (by kernel_rfl) ?ss27 (fun hHeld => ?rr27)
     case ss27 => (try dsimp only); exact bdr HP.out.2 1
     refine rgt 0 37 rfl rfl hHeld ?_
     try simp only [Act.put, rg1, rg2, rg3]
     refine rgt 1 38 rfl rfl hHeld ?_
     try simp only [Act.put, rg1, rg2, rg3]
     refine rgt 2 39 rfl rfl hHeld ?_
     try simp only [Act.put, rg1, rg2, rg3]
     refine rgt 3 40 rfl rfl hHeld ?_
     try simp only [Act.put, rg1, rg2, rg3]
     refine rgt 4 41 rfl rfl hHeld ?_
     try simp only [Act.put, rg1, rg2, rg3]
     refine rgt 5 42 rfl rfl hHeld ?_
     try simp only [Act.put, rg1, rg2, rg3]
     refine rgt 6 43 rfl rfl hHeld ?_
     try simp only [Act.put, rg1, rg2, rg3]
     refine rgt 7 44 rfl rfl hHeld ?_
     try simp only [Act.put, rg1, rg2, rg3]
     refine rgt 8 45 rfl rfl hHeld ?_
     try simp only [Act.put, rg1, rg2, rg3]
     refine rgc 9 (some 46) rfl (fun K hK => ?_)
     go_simp
     go_simp
     refine hK.out _ _ ?ss37 (fun hHeld2 => ?rr37)
     case ss37 => (try dsimp only); exact bal hHeld _
     clear hK K
     clear hHeld
     have hHeld := hHeld2
     clear hHeld2
     try simp only [Act.put, rg1, rg2, rg3]
     refine rgc 10 (some 47) rfl (fun K hK => ?_)
     (refine step_append_sl rfl (.tmp 37) (.tmp 46) _ rfl w.heap.size 5 i0 _ 1 1 Tryz.underlying71 hi0 hz0 hz1 hz2 rfl (by omega) _ _ _ rfl (HP.out.on (bal (bdr b0 1) _)).1 (wr.heap.size + 1) (some ⟨wr.heap.size, 0, none⟩) 4 4 [.int .u8 92, .int .u8 120, .int .u8 (hexD a).toNat, .int .u8 (hexD b).toNat] rfl (Sl.many wr.drew _ _ 4 rfl) (by intro u hu; simp only [List.mem_cons, List.not_mem_nil, or_false] at hu; rcases hu with rfl | rfl | rfl | rfl <;> rfl) (by unfold maxLen; omega) (by omega) (by have := HP.out.2.size; have := hHeld.size; omega) ?_; intro V' w6 hown6 hg6 hV6; have HO2 := Lib.hid (HP.out.app (c := [92, 120, hexD a, hexD b]) (bal (bdr b0 1) _) hown6 hg6); clear hown6 hg6 hV6)
     refine hK.out _ _ ?ss38 (fun hHeld2 => ?rr38)
     case ss38 => (try dsimp only); exact HO2.out.2
     clear hK K
     clear hHeld
     have hHeld := hHeld2
     clear hHeld2
     try simp only [Act.put, rg1, rg2, rg3]
     refine rgt 11 4 rfl rfl hHeld ?_
     try simp only [Act.put, rg1, rg2, rg3]
     refine wpAnyH_done (by kernel_rfl) ?_ _
     go_wp2_with fail
     rw [HE2.out] at HO2
     go_roundg (s.length - (k + 1))
     case measure => omega
     case rel => exact ⟨k + 1, by omega, rfl, by go_num, HO2⟩
    ·
     go_upto_region 10 with fail
     refine wp_region_held_drew (S := (fun W' => Below w.heap.size w W')) (by kernel_rfl) ?ss40 (fun hHeld => ?rr40)
     case ss40 => (try dsimp only); exact bdr HP.out.2 1
     refine rgt 0 37 rfl rfl hHeld ?_
     try simp only [Act.put, rg1, rg2, rg3]
     refine rgt 1 38 rfl rfl hHeld ?_
     try simp only [Act.put, rg1, rg2, rg3]
     refine rgt 2 39 rfl rfl hHeld ?_
     try simp only [Act.put, rg1, rg2, rg3]
     refine rgt 3 40 rfl rfl hHeld ?_
     try simp only [Act.put, rg1, rg2, rg3]
     refine rgt 4 41 rfl rfl hHeld ?_
     try simp only [Act.put, rg1, rg2, rg3]
     refine rgt 5 42 rfl rfl hHeld ?_
     try simp only [Act.put, rg1, rg2, rg3]
     refine rgt 6 43 rfl rfl hHeld ?_
     try simp only [Act.put, rg1, rg2, rg3]
     refine rgt 7 44 rfl rfl hHeld ?_
     try simp only [Act.put, rg1, rg2, rg3]
     refine rgt 8 45 rfl rfl hHeld ?_
     try simp only [Act.put, rg1, rg2, rg3]
     refine rgc 9 (some 46) rfl (fun K hK => ?_)
     go_simp
     go_simp
     refine hK.out _ _ ?ss50 (fun hHeld2 => ?rr50)
     case ss50 => (try dsimp only); exact bal hHeld _
     clear hK K
     clear hHeld
     have hHeld := hHeld2
     clear hHeld2
     try simp only [Act.put, rg1, rg2, rg3]
     refine rgc 10 (some 47) rfl (fun K hK => ?_)
     (refine step_append_sl rfl (.tmp 37) (.tmp 46) _ rfl w.heap.size 5 i0 _ 1 1 Tryz.underlying71 hi0 hz0 hz1 hz2 rfl (by omega) _ _ _ rfl (HP.out.on (bal (bdr b0 1) _)).1 (wr.heap.size + 1) (some ⟨wr.heap.size, 0, none⟩) 4 4 [.int .u8 92, .int .u8 120, .int .u8 (hexD a).toNat, .int .u8 (hexD b).toNat] rfl (Sl.many wr.drew _ _ 4 rfl) (by intro u hu; simp only [List.mem_cons, List.not_mem_nil, or_false] at hu; rcases hu with rfl | rfl | rfl | rfl <;> rfl) (by unfold maxLen; omega) (by omega) (by have := HP.out.2.size; have := hHeld.size; omega) ?_; intro V' w6 hown6 hg6 hV6; have HO2 := Lib.hid (HP.out.app (c := [92, 120, hexD a, hexD b]) (bal (bdr b0 1) _) hown6 hg6); clear hown6 hg6 hV6)
     refine hK.out _ _ ?ss51 (fun hHeld2 => ?rr51)
     case ss51 => (try dsimp only); exact HO2.out.2
     clear hK K
     clear hHeld
     have hHeld := hHeld2
     clear hHeld2
     try simp only [Act.put, rg1, rg2, rg3]
     refine rgt 11 4 rfl rfl hHeld ?_
     try simp only [Act.put, rg1, rg2, rg3]
     refine wpAnyH_done (by kernel_rfl) ?_ _
     go_wp2_with fail
     rw [HE2.out] at HO2
     go_roundg (s.length - (k + 1))
     case measure => omega
     case rel => exact ⟨k + 1, by omega, rfl, by go_num, HO2⟩
  ·
   obtain rfl : k = s.length := by omega
   rw [List.take_length] at HP hln hin ⊢
   go_wp2_with (at_builtin; refine wpList_append_sl _ rfl (.tmp 48) (.tmp 49) _ rfl w.heap.size 5 i0 _ 1 1 Tryz.underlying71 hi0 hz0 hz1 hz2 rfl (by omega) _ _ _ rfl (HP.out.on (bal b0 _)).1 (wr.heap.size + 1) (some ⟨wr.heap.size, 0, none⟩) 1 1 [.int .u8 34] rfl (Sl.one wr _ _) (fun u hu => by rw [List.mem_singleton.1 hu]; rfl) (by unfold maxLen; omega) (by omega) (by have := HP.out.2.size; simp only [World.size_alloc]; omega) ?_; intro v' w2 hown2 hgrow _; have HO2 := Lib.hid (HP.out.app (c := [34]) (bal b0 _) hown2 hgrow); have hcv := conv_own HO2.out.1; unfold strV at hcv; clear hown2 hgrow)
   go_ret
   exact ⟨rfl, HO2.out.2⟩
end Go.Proofs.YtobplngonkdbpaaGreatDoor.D
/- AnB -/
namespace Go.Proofs.YtobplngonkdbpaaGreatDoor.D
open Go.RowKit
open Go.Proofs.YtobplngonkdbpaaGreatDoor.B
set_option linter.unusedVariables false
set_option linter.unusedSimpArgs false
end Go.Proofs.YtobplngonkdbpaaGreatDoor.D
/- AnC -/
namespace Go.Proofs.YtobplngonkdbpaaGreatDoor.D
open Go.RowKit
open Go.Proofs.YtobplngonkdbpaaGreatDoor.B
set_option linter.unusedVariables false
set_option linter.unusedSimpArgs false
end Go.Proofs.YtobplngonkdbpaaGreatDoor.D
/- AnD -/
namespace Go.Proofs.YtobplngonkdbpaaGreatDoor.D
open Go.RowKit
open Go.Proofs.YtobplngonkdbpaaGreatDoor.B
set_option linter.unusedVariables false
set_option linter.unusedSimpArgs false
end Go.Proofs.YtobplngonkdbpaaGreatDoor.D
/- AnE -/
namespace Go.Proofs.YtobplngonkdbpaaGreatDoor.D
open Go.RowKit
open Go.Proofs.YtobplngonkdbpaaGreatDoor.B
set_option linter.unusedVariables false
set_option linter.unusedSimpArgs false
theorem isSome {α : Type} {v : Option α} {z : α} (h : true = v.isSome) (hv : ∀ t, v = some t -> z = t) : v = some z := by
 cases v with
 | none => cases h
 | some t => rw [hv t rfl]
theorem i8_same {a : Int} (h : -128 <= a) (k : a <= 127) : IntKind.i8.wrap a = a := by simp [IntKind.wrap, IntKind.bits, IntKind.signed]; omega
end Go.Proofs.YtobplngonkdbpaaGreatDoor.D
/- AnP -/
namespace Go.Proofs.YtobplngonkdbpaaGreatDoor.D
open Go Go.Lib
set_option linter.unusedVariables false
set_option linter.unusedSimpArgs false
end Go.Proofs.YtobplngonkdbpaaGreatDoor.D
/- AnF -/
namespace Go.Proofs.YtobplngonkdbpaaGreatDoor.D
open Go.RowKit
open Go.Proofs.YtobplngonkdbpaaGreatDoor.B
set_option linter.unusedVariables false
set_option linter.unusedSimpArgs false
end Go.Proofs.YtobplngonkdbpaaGreatDoor.D
/- AnG -/
namespace Go.Proofs.YtobplngonkdbpaaGreatDoor.D
open Go.RowKit
open Go.Proofs.YtobplngonkdbpaaGreatDoor.B
set_option linter.unusedVariables false
set_option linter.unusedSimpArgs false
section
variable {w w3 w4 : World} {r st B i b : Nat} {L : CoL} {A Bl l : List Rw} {x x' : Rw} {v V V' : Value} {f t : Bs} {D : List Nd} {E : List Bs} {F0 : List FuL} {g : FuL} {gF cF : Nat}
end
set_option maxRecDepth 100000 in
theorem namesA_any (w : World) : Calls Tryz.prog 44 #[] w fun e w' => ∃ b, e = .returned (.slice (some ⟨b, 0, none⟩) 23 23) /\ w.heap.size <= b /\ b < w'.heap.size /\ Below w.heap.size w w' /\ ∀ j x, opNames[j]? = some x -> w'.cell? ⟨b, j, none⟩ = some (strV x) := by
 have key : Calls Tryz.prog 44 #[] w fun e w' => e = .returned (.slice (some ⟨w.heap.size, 0, none⟩) 23 23) /\ w' = w.alloc (.cells (opNames.map strV).toArray 9) := by
  go_enter Tryz.func44, Tryz.ntmps44
  go_wp2_with fail
  go_ret
  exact ⟨rfl, rfl⟩
 refine key.mono ?_
 rintro e w' ⟨rfl, rfl⟩
 refine ⟨_, rfl, Nat.le_refl _, by simp, bal b0 _, fun j x hx => ?_⟩
 rw [World.cell?_alloc_new]
 simp [hx]
theorem name_get {op : Int} (h : 1 <= op /\ op <= 23) : opNames[op.toNat - 1]? = some (nameV op) := by
 rw [(nameV_in h).1]
 have hl : opNames.length = 23 := rfl
 rw [List.getD_eq_getElem?_getD, List.getElem?_eq_getElem (by omega)]; rfl
set_option maxRecDepth 100000 in
theorem nameA_any (op : Int) (w : World) (h0 : -128 <= op) (h1 : op <= 127) :
  Calls Tryz.prog 12 #[.int .i8 op] w fun e w' => e = .returned (strV (nameV op)) /\ Below w.heap.size w w' := by
 have hn := namesA_any w
 go_enter Tryz.func12, Tryz.ntmps12
 go_wp2_with fail
 (refine hn.mono ?_); rintro ev w1 ⟨b, rfl, hb1, hb2, hb, hc⟩
 clear hn
 by_cases hlo : op < 1
 ·
  have e0 : nameV op = [] := nameV_out (by omega)
  have HE := Lib.hid e0
  clear e0 hc
  go_wp2_with fail
  go_ret
  exact ⟨by rw [HE.out]; rfl, hb⟩
 by_cases hhi : 23 < op
 ·
  have e0 : nameV op = [] := nameV_out (by omega)
  have HE := Lib.hid e0
  clear e0 hc
  go_wp2_with fail
  go_ret
  exact ⟨by rw [HE.out]; rfl, hb⟩
 have hg := hc _ _ (name_get (op := op) ⟨by omega, by omega⟩)
 obtain ⟨k, hk⟩ : ∃ k, op.toNat - 1 = k := ⟨_, rfl⟩
 rw [hk] at hg
 have ek : IntKind.i8.wrap (op - 1) = (k : Int) := by rw [i8_same (by omega) (by omega)]; omega
 have lk : (k : Int) < 23 := by omega
 have HH := Lib.hid hk
 have n1 : ¬ (op < 1) := hlo
 have n2 : ¬ ((23 : Int) < op) := hhi
 clear hk hc hlo hhi
 unfold strV at hg
 go_wp2_with fail
 go_ret
 exact ⟨rfl, hb⟩
end Go.Proofs.YtobplngonkdbpaaGreatDoor.D
/- AnH -/
namespace Go.Proofs.YtobplngonkdbpaaGreatDoor.D
open Go.RowKit
open Go.Proofs.YtobplngonkdbpaaGreatDoor.B
set_option linter.unusedVariables false
set_option linter.unusedSimpArgs false
end Go.Proofs.YtobplngonkdbpaaGreatDoor.D
/- CgH -/
namespace Go.Proofs.YtobplngonkdbpaaGreatDoor.D
open Go.RowKit
open Go.Proofs.YtobplngonkdbpaaGreatDoor.B
set_option linter.unusedVariables false
set_option linter.unusedSimpArgs false
theorem retV {v v' : Value} (h : v = v') : Ending.returned v = Ending.returned v' := by rw [h]
/-- How many boxes the first k letters have. -/
def cnt (s : ByteArray) (k : Nat) : Nat := (s.data.toList.take k).count 120
theorem cnt_succ (s : ByteArray) (k : Nat) (h : k < s.size) : cnt s (k + 1) = cnt s k + if s[k] = 120 then 1 else 0 := by
 have hl : k < s.data.toList.length := by simpa using h
 unfold cnt
 rw [List.take_succ_eq_append_getElem hl, List.count_append]
 congr 1
 have e : s.data.toList[k] = s[k] := by simp [ByteArray.getElem_eq_getElem_data]
 rw [e]
 by_cases hx : s[k] = 120
 · rw [if_pos hx, hx]; rfl
 · rw [if_neg hx, List.count_singleton, if_neg (by simpa using hx)]
theorem cnt_le (s : ByteArray) (k : Nat) : cnt s k <= cnt s s.size := by
 unfold cnt
 rw [show s.data.toList.take s.size = s.data.toList from List.take_of_length_le (by simp)]
 exact (List.take_sublist _ _).count_le _
def deepB (s : ByteArray) : Bool := decide (12 < cnt s s.size)
def sizeT (s : ByteArray) : Int := if deepB s = true then 2147483648 else s.size
theorem deep_w (s : ByteArray) (w : World) (hs : s.size <= 4611686018427387904) : Calls Tryz.prog 120 #[.string s] w fun e w' => e = .returned (.bool (deepB s)) /\ w = w' := by
 obtain ⟨R, hR⟩ : ∃ R, deepB s = R := ⟨_, rfl⟩
 rw [hR]
 have HR := Lib.hid hR
 clear hR
 go_enter Tryz.func120, Tryz.ntmps120
 go_wp2
 go_loop [3, 4] (fun n i => ∃ (k N : Nat), k <= s.size /\ i = .int .i64 k /\ n = .int .i64 N /\ N <= 13 /\ Hid (N = cnt s k)) (fun _ i => s.size - (intOf i).toNat)
 case atStart => exact ⟨0, 0, Nat.zero_le _, rfl, rfl, by omega, Lib.hid rfl⟩
 case round =>
  obtain ⟨k, N, hk, rfl, rfl, hN, HC⟩ := hrel
  by_cases hlt : k < s.size
  ·
   have HS := Lib.hid (cnt_succ s k hlt)
   by_cases hn : N <= 12
   ·
    by_cases hx : s[k] = 120
    ·
     have hx' : ((s[k].toNat : Int) == 120) = true := by rw [hx]; rfl
     have HX := Lib.hid hx
     clear hx
     go_wp2
     go_round
     case rel => exact ⟨k + 1, N + 1, by omega, by go_num, by go_num, by omega, Lib.hid (by rw [HS.out, if_pos HX.out, <- HC.out])⟩
     case measure => simp [intOf]; omega
    ·
     have hx' : ((s[k].toNat : Int) == 120) = false := by
      rw [beq_eq_false_iff_ne]
      intro e
      exact hx (UInt8.toNat_inj.1 (by have : s[k].toNat = 120 := by omega
                                      exact this))
     have HX := Lib.hid hx
     clear hx
     go_wp2
     go_round
     case rel => exact ⟨k + 1, N, by omega, by go_num, rfl, by omega, Lib.hid (by rw [HS.out, if_neg HX.out, <- HC.out, Nat.add_zero])⟩
     case measure => simp [intOf]; omega
   ·
    have hd : decide ((12 : Int) < (N : Int)) = true := by simp; omega
    have hr : R = true := by
     rw [<- HR.out]
     unfold deepB
     have h1 := cnt_le s k
     have h2 := HC.out
     exact decide_eq_true (by omega)
    go_wp2
    go_ret
    exact ⟨retV (congrArg Value.bool (by first | rfl | exact hd | (rw [hr]))), rfl⟩
  ·
   obtain rfl : k = s.size := by omega
   go_wp2
   go_ret
   refine ⟨retV (congrArg Value.bool ?_), rfl⟩
   rw [<- HR.out]
   unfold deepB
   rw [<- HC.out]
   exact decide_eq_decide.2 (by omega)
theorem sizeType_w (s : ByteArray) (w : World) (hs : s.size <= 4611686018427387904) : Calls Tryz.prog 86 #[.string s] w fun e w' => e = .returned (.int .i64 (sizeT s)) /\ w' = w := by
 have hd := fun W => deep_w s W hs
 unfold sizeT
 generalize deepB s = v at *
 go_enter Tryz.func86, Tryz.ntmps86
 go_wp2_with fail
 (refine (hd _).mono ?_); rintro e w1 ⟨rfl, rfl⟩
 cases v
 ·
  go_wp2_with fail
  go_ret
  exact ⟨rfl, rfl⟩
 ·
  go_wp2_with fail
  go_ret
  exact ⟨rfl, rfl⟩
/-- What a type counts. -/
def tyN (s : Bs) : Nat := if deepB ⟨s.toArray⟩ = true then 2147483648 else s.length
theorem tyN_ge (s : Bs) (h : tyN s <= 2147483647) : tyN s = s.length := by
 unfold tyN at h ⊢
 split at h
 · omega
 · rename_i hd; rw [if_neg hd]
theorem tyN_le (s : Bs) (h : s.length <= 140737488355328) : tyN s <= 140737488355328 := by unfold tyN; split <;> omega
theorem sizeTy_c (s : Bs) (w : World) (hs : s.length <= 140737488355328) : Calls Tryz.prog 86 #[.string ⟨s.toArray⟩] w fun e w' => e = .returned (.int .i64 (tyN s : Nat)) /\ Below w.heap.size w w' := by
 have hz := str_size s
 refine (sizeType_w ⟨s.toArray⟩ w (by omega)).mono ?_
 rintro e w' ⟨rfl, rfl⟩
 refine ⟨?_, b0⟩
 unfold sizeT tyN
 split
 · rfl
 · rw [hz]
def mT (l : List Bs) : Nat := l.length + (l.map List.length).sum
def mF (f : Fu) : Nat := mT f.env + f.param.length + f.res.length + f.code.length
def mW (f : Wt) : Nat := f.f.length + f.t.length + f.co.length
/-- How much code counts. -/
def mC (c : Cod) : Nat := c.fns.length + c.casts.length + c.nums.length + mT c.texts + mT c.types + (c.fns.map mF).sum + (c.casts.map mW).sum
theorem sum_take {α : Type} (f : α -> Nat) {l : List α} {k : Nat} {a : α} (h : l[k]? = some a) : ((l.take (k + 1)).map f).sum = ((l.take k).map f).sum + f a := by
 rw [List.take_add_one, h]; simp
set_option maxRecDepth 100000 in
theorem sizeTexts_c (l : List Bs) (n : Nat) (A : Option Addr) (c : Nat) (w : World) (hn : l.length = n) (hb : n <= 140737488355328) (hl : ∀ x ∈ l, x.length <= 140737488355328) (hA : Sl w w.heap.size 1 A n (envC l)) :
  Calls Tryz.prog 84 #[.slice A n c] w fun e w' => ∃ N : Nat, e = .returned (.int .i64 N) /\ N <= 200000000000000 /\ (N <= 2147483647 -> mT l <= N) /\ Below w.heap.size w w' := by
 have HA := Lib.hid (And.intro hA (And.intro hn hl))
 clear hA hn hl
 go_enter Tryz.func84, Tryz.ntmps84
 go_wp2_with fail
 go_loopg [3, 4] n (fun gg z i wr => ∃ k N : Nat, k <= n /\ gg = n - k /\ i = .int .i64 k /\ z = .int .i64 N /\ N <= 200000000000000 /\ Hid ((N <= 2147483647 -> N = l.length + ((l.take k).map List.length).sum) /\ Below w.heap.size w wr))
 case atStart => exact ⟨0, n, by omega, rfl, rfl, rfl, by omega, Lib.hid ⟨fun _ => by rw [HA.out.2.1]; simp, b0⟩⟩
 case round =>
  obtain ⟨k, N, hk, rfl, rfl, rfl, hN, HR⟩ := hrel
  by_cases hlt : k < n
  ·
   by_cases hbig : N <= 2147483647
   ·
    obtain ⟨x, hx⟩ : ∃ x, l[k]? = some x := ⟨_, List.getElem?_eq_getElem (by rw [HA.out.2.1]; exact hlt)⟩
    obtain ⟨b, o, rfl, hbl, hc⟩ := HA.out.1.at_ (by omega)
    have d0 : wr.cell? ⟨b, o + k, none⟩ = some (.string ⟨x.toArray⟩) := (HR.out.2.cell (p := ⟨b, o + k, none⟩) hbl).trans (hc k _ (by simp [envC, hx]; rfl))
    have hz := str_size x
    have hxl := HA.out.2.2 x (List.mem_of_getElem? hx)
    have hst := sum_take List.length hx
    skip
    have HST := Lib.hid hst
    clear hx hbl hc hst
    go_wp2_with fail
    skip
    go_roundg (n - (k + 1))
    case measure => omega
    case rel => exact ⟨k + 1, N + x.length, by omega, rfl, by go_num, by go_num, by omega, Lib.hid ⟨fun h => by rw [HST.out]; have := HR.out.1 hbig; omega, HR.out.2⟩⟩
   ·
    have hd : decide ((N : Int) <= 2147483647) = false := by simp; omega
    go_wp2_with fail
    go_ret
    exact ⟨N, rfl, hN, fun h => absurd h hbig, HR.out.2⟩
  ·
   obtain rfl : k = n := by omega
   go_wp2_with fail
   go_ret
   refine ⟨N, rfl, hN, fun h => ?_, HR.out.2⟩
   have := HR.out.1 h
   rw [<- HA.out.2.1, List.take_length] at this
   unfold mT; omega
set_option maxRecDepth 100000 in
theorem sizeTypes_c (l : List Bs) (n : Nat) (A : Option Addr) (c : Nat) (w : World) (hn : l.length = n) (hb : n <= 140737488355328) (hl : ∀ x ∈ l, x.length <= 140737488355328) (hA : Sl w w.heap.size 1 A n (envC l)) :
  Calls Tryz.prog 85 #[.slice A n c] w fun e w' => ∃ N : Nat, e = .returned (.int .i64 N) /\ N <= 200000000000000 /\ (N <= 2147483647 -> mT l <= N) /\ Below w.heap.size w w' := by
 have HA := Lib.hid (And.intro hA (And.intro hn hl))
 clear hA hn hl
 go_enter Tryz.func85, Tryz.ntmps85
 go_wp2_with fail
 go_loopg [3, 4] n (fun gg z i wr => ∃ k N : Nat, k <= n /\ gg = n - k /\ i = .int .i64 k /\ z = .int .i64 N /\ N <= 200000000000000 /\ Hid ((N <= 2147483647 -> N = l.length + ((l.take k).map List.length).sum) /\ Below w.heap.size w wr))
 case atStart => exact ⟨0, n, by omega, rfl, rfl, rfl, by omega, Lib.hid ⟨fun _ => by rw [HA.out.2.1]; simp, b0⟩⟩
 case round =>
  obtain ⟨k, N, hk, rfl, rfl, rfl, hN, HR⟩ := hrel
  by_cases hlt : k < n
  ·
   by_cases hbig : N <= 2147483647
   ·
    obtain ⟨x, hx⟩ : ∃ x, l[k]? = some x := ⟨_, List.getElem?_eq_getElem (by rw [HA.out.2.1]; exact hlt)⟩
    obtain ⟨b, o, rfl, hbl, hc⟩ := HA.out.1.at_ (by omega)
    have d0 : wr.cell? ⟨b, o + k, none⟩ = some (.string ⟨x.toArray⟩) := (HR.out.2.cell (p := ⟨b, o + k, none⟩) hbl).trans (hc k _ (by simp [envC, hx]; rfl))
    have hz := str_size x
    have hxl := HA.out.2.2 x (List.mem_of_getElem? hx)
    have hst := sum_take List.length hx
    have hty := tyN_le x hxl
    have HTY := Lib.hid (tyN_ge x)
    have HC := Lib.hid (sizeTy_c x wr hxl)
    have HST := Lib.hid hst
    clear hx hbl hc hst
    go_wp2_with fail
    (refine HC.out.mono ?_); rintro ev w2 ⟨rfl, hb2⟩
    have HB2 := Lib.hid (bl HR.out.2 hb2)
    clear hb2
    go_wp2_with fail
    go_roundg (n - (k + 1))
    case measure => omega
    case rel => exact ⟨k + 1, N + tyN x, by omega, rfl, by go_num, by go_num, by omega, Lib.hid ⟨fun h => by rw [HST.out]; have := HR.out.1 hbig; have := HTY.out (by omega); omega, HB2.out⟩⟩
   ·
    have hd : decide ((N : Int) <= 2147483647) = false := by simp; omega
    go_wp2_with fail
    go_ret
    exact ⟨N, rfl, hN, fun h => absurd h hbig, HR.out.2⟩
  ·
   obtain rfl : k = n := by omega
   go_wp2_with fail
   go_ret
   refine ⟨N, rfl, hN, fun h => ?_, HR.out.2⟩
   have := HR.out.1 h
   rw [<- HA.out.2.1, List.take_length] at this
   unfold mT; omega
end Go.Proofs.YtobplngonkdbpaaGreatDoor.D
