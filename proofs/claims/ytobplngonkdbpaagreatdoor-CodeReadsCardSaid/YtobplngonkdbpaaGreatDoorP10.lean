/- Parts of this claim: AnA, AnB. -/
import Derived.Test.YtobplngonkdbpaaGreatDoorP09
import Derived.Test.YtobplngonkdbpaaGreatDoorP06
set_option linter.unusedVariables false
set_option linter.unusedSimpArgs false
/- AnA -/
namespace Go.Proofs.YtobplngonkdbpaaGreatDoor.D
open Go.RowKit
open Go.Proofs.YtobplngonkdbpaaGreatDoor.B
set_option linter.unusedVariables false
set_option linter.unusedSimpArgs false

def hexI (b : UInt8) : Int := match hexV b with | some n => n | none => -1
theorem hexI_lt (b : UInt8) : -1 ≤ hexI b ∧ hexI b < 16 := by
  have key : ∀ c : Fin 256, -1 ≤ hexI (UInt8.ofNat c.val) ∧ hexI (UInt8.ofNat c.val) < 16 := by decide +kernel
  have := key ⟨b.toNat, b.toNat_lt⟩
  simpa using this
theorem hexA_any (b : UInt8) (w : World) :
    Calls Tryz.prog 169 #[.int .u8 b.toNat] w fun e w' => e = .returned (.int .i64 (hexI b)) ∧ w = w' := by
  have h255 := b.toNat_lt
  unfold hexI hexV
  by_cases h1 : 48 ≤ b.toNat
  · by_cases h2 : b.toNat ≤ 57
    · rw [if_pos ⟨h1, h2⟩]
      have e1 : decide ((48 : Int) ≤ b.toNat) = true := by simp; omega
      have e2 : decide ((b.toNat : Int) ≤ 57) = true := by simp; omega
      have hw : IntKind.u8.wrap ((b.toNat : Int) - 48) = ((b.toNat - 48 : Nat) : Int) := by rw [IntKind.wrap_u8]; omega
      generalize b.toNat = n at *
      clear h1 h2
      go_enter Tryz.func169, Tryz.ntmps169
      go_wp2_with fail
      go_ret
      exact ⟨rfl, rfl⟩
    · rw [if_neg (by omega)]
      have e1 : decide ((48 : Int) ≤ b.toNat) = true := by simp; omega
      have e2 : decide ((b.toNat : Int) ≤ 57) = false := by simp; omega
      by_cases h3 : 97 ≤ b.toNat
      · have e3 : decide ((97 : Int) ≤ b.toNat) = true := by simp; omega
        by_cases h4 : b.toNat ≤ 102
        · rw [if_pos ⟨h3, h4⟩]
          have e4 : decide ((b.toNat : Int) ≤ 102) = true := by simp; omega
          have hw : IntKind.u8.wrap ((b.toNat : Int) - 97) = ((b.toNat - 97 : Nat) : Int) := by rw [IntKind.wrap_u8]; omega
          generalize b.toNat = n at *
          clear h1 h2 h3 h4
          go_enter Tryz.func169, Tryz.ntmps169
          go_wp2_with fail
          go_ret
          exact ⟨rfl, rfl⟩
        · rw [if_neg (by omega)]
          have e4 : decide ((b.toNat : Int) ≤ 102) = false := by simp; omega
          generalize b.toNat = n at *
          clear h1 h2 h3 h4
          go_enter Tryz.func169, Tryz.ntmps169
          go_wp2_with fail
          go_ret
          exact ⟨rfl, rfl⟩
      · rw [if_neg (by omega)]
        have e3 : decide ((97 : Int) ≤ b.toNat) = false := by simp; omega
        generalize b.toNat = n at *
        clear h1 h2 h3
        go_enter Tryz.func169, Tryz.ntmps169
        go_wp2_with fail
        go_ret
        exact ⟨rfl, rfl⟩
  · rw [if_neg (by omega), if_neg (by omega)]
    have e1 : decide ((48 : Int) ≤ b.toNat) = false := by simp; omega
    have e3 : decide ((97 : Int) ≤ b.toNat) = false := by simp; omega
    generalize b.toNat = n at *
    clear h1
    go_enter Tryz.func169, Tryz.ntmps169
    go_wp2_with fail
    go_ret
    exact ⟨rfl, rfl⟩

def digS : Bs := [48, 49, 50, 51, 52, 53, 54, 55, 56, 57, 97, 98, 99, 100, 101, 102]
theorem digS_at (i : Nat) (h : i < (⟨#[48, 49, 50, 51, 52, 53, 54, 55, 56, 57, 97, 98, 99, 100, 101, 102]⟩ : ByteArray).size) : (⟨#[48, 49, 50, 51, 52, 53, 54, 55, 56, 57, 97, 98, 99, 100, 101, 102]⟩ : ByteArray)[i]'h = hexD i := by
  have key : ∀ j : Fin 16, (⟨#[48, 49, 50, 51, 52, 53, 54, 55, 56, 57, 97, 98, 99, 100, 101, 102]⟩ : ByteArray)[j.val]'(j.isLt) = hexD j.val := by decide
  exact key ⟨i, h⟩
/-- Bytes of one's own, in a world that went on from w0. -/
def OB (w0 : World) (W : World) (u : Value) (b : Bs) : Prop := W.ownsRow w0.heap.size 5 1 u b.length (Lib.byteCells b) ∧ Below w0.heap.size w0 W
theorem OB.nil (w : World) : OB w w (.slice none 0 0) [] := ⟨World.ownsRow_nil _ _ _ _, Below.refl _ _⟩
theorem OB.drew {w0 W : World} {u : Value} {b : Bs} (h : OB w0 W u b) : OB w0 W.drew u b := ⟨own_below h.1 (bdr b0 1), bdr h.2 1⟩
theorem OB.on {w0 W W' : World} {u : Value} {b : Bs} (h : OB w0 W u b) (hb : Below W.heap.size W W') : OB w0 W' u b := ⟨own_below h.1 hb, bl h.2 hb⟩
theorem OB.app {w0 W W1 W2 : World} {u v : Value} {b c : Bs} (h : OB w0 W u b) (h1 : Below W.heap.size W W1) (ho : W2.ownsRow w0.heap.size 5 1 v (b.length + c.length) (Lib.byteCells b ++ Lib.byteCells c)) (hg : W1.grownBy W2 u.ownBlock) : OB w0 W2 v (b ++ c) := by
  refine ⟨by rw [List.length_append, Lib.byteCells_append]; exact ho, (bl h.2 h1).grown hg (by have := h1.size; have := h.2.size; omega) fun k hk => (h.1.lt k hk).1⟩
theorem Sl.many (w : World) (xs : List Value) (T : TypeId) (n : Nat) (h : xs.length = n) : Sl (w.alloc (.cells xs.toArray T)) (w.heap.size + 1) 1 (some ⟨w.heap.size, 0, none⟩) n xs := by
  refine ⟨by omega, .inr ⟨w.heap.size, 0, rfl, by simp, fun j u hu => ?_⟩⟩
  rw [Nat.zero_add, World.cell?_alloc_new]
  simpa using hu
theorem i8_of : ∀ c : Bs, ∀ u ∈ Lib.byteCells c, u.oneCell' = true := by
  intro c u hu
  obtain ⟨x, _, rfl⟩ := List.mem_map.1 hu
  rfl

set_option maxRecDepth 100000 in
set_option maxHeartbeats 2000000 in
theorem quoted_any (s : Bs) (w : World) (hl : s.length ≤ 1073741824) :
    Calls Tryz.prog 39 #[strV s] w fun e w' => e = .returned (strV (quoteL s)) ∧ Below w.heap.size w w' := by
  obtain ⟨i0, hi0, hz0, hz1, hz2⟩ := info_parts Bd.infoU8
  have hsz := str_size s
  unfold strV
  have HO := Lib.hid (OB.nil w)
  go_enter Tryz.func39, Tryz.ntmps39
  go_wp2_with (at_builtin; refine wpList_append_sl _ rfl (.tmp 7) (.tmp 8) _ rfl w.heap.size 5 i0 _ 1 1 Tryz.underlying71 hi0 hz0 hz1 hz2 rfl (by omega) _ 0 [] rfl (HO.out.on (bal b0 _)).1 (w.heap.size + 1) (some ⟨w.heap.size, 0, none⟩) 1 1 [.int .u8 34] rfl (Sl.one w _ _) (fun u hu => by rw [List.mem_singleton.1 hu]; rfl) (by unfold maxLen; omega) (by omega) (by simp only [World.size_alloc]; omega) ?_; intro v' w2 hown2 hgrow _; have HO2 := Lib.hid (HO.out.app (c := [34]) (bal b0 _) hown2 hgrow); clear hown2 hgrow)
  go_loopg [4, 5] s.length (fun g u i wr => ∃ k : Nat, k ≤ s.length ∧ g = s.length - k ∧ i = .int .i64 k ∧ Hid (OB w wr u (34 :: inner (s.take k))))
  case atStart => exact ⟨0, by omega, rfl, rfl, HO2⟩
  case round =>
    obtain ⟨k, hk, rfl, rfl, HP⟩ := hrel
    clear HO HO2
    have hin := inner_len (s.take k)
    have hinl : (s.take k).length ≤ s.length := by rw [List.length_take]; omega
    obtain ⟨AV, cV, rfl, hc1, hc2⟩ := own_shape HP.out.1
    have hln : (34 :: inner (s.take k)).length ≤ 4294967297 := by rw [List.length_cons]; omega
    by_cases hlt : k < s.length
    · obtain ⟨x, hx⟩ : ∃ x, s[k]? = some x := ⟨_, List.getElem?_eq_getElem hlt⟩
      have hat := str_at hx (by rw [hsz]; exact hlt)
      have hx255 := x.toNat_lt
      have HE := Lib.hid (show ∀ c, escB x = c → 34 :: inner (s.take k) ++ c = 34 :: inner (s.take (k + 1)) by rintro c rfl; rw [inner_take hx, List.cons_append])
      clear hx
      by_cases hpl : plainB x = true
      · obtain ⟨f1, f2, f3, f4⟩ := plainB_iff.1 hpl
        have HE2 := Lib.hid (HE.out [x] (by rw [escB, if_pos hpl]))
        clear hpl HE
        have e1 : decide ((32 : Int) ≤ (x.toNat : Int)) = true := by simp; omega
        have e2 : decide ((x.toNat : Int) ≤ 126) = true := by simp; omega
        have e3 : ((x.toNat : Int) != 34) = true := by simp; omega
        have e4 : ((x.toNat : Int) != 92) = true := by simp; omega
        clear f1 f2 f3 f4
        go_wp2_with (at_builtin; refine wpList_append_sl _ rfl (.tmp 33) (.tmp 35) _ rfl w.heap.size 5 i0 _ 1 1 Tryz.underlying71 hi0 hz0 hz1 hz2 rfl (by omega) _ _ _ rfl (HP.out.on (bal b0 _)).1 (wr.heap.size + 1) (some ⟨wr.heap.size, 0, none⟩) 1 1 [.int .u8 x.toNat] rfl (Sl.one wr _ _) (fun u hu => by rw [List.mem_singleton.1 hu]; rfl) (by unfold maxLen; omega) (by omega) (by have := HP.out.2.size; simp only [World.size_alloc]; omega) ?_; intro v' w2 hown2 hgrow _; have HO2 := Lib.hid (HP.out.app (c := [x]) (bal b0 _) hown2 hgrow); clear hown2 hgrow)
        rw [HE2.out] at HO2
        go_roundg (s.length - (k + 1))
        case measure => omega
        case rel => exact ⟨k + 1, by omega, rfl, by go_num, HO2⟩
      · have key : decide ((32 : Int) ≤ (x.toNat : Int)) = false ∨ (decide ((32 : Int) ≤ (x.toNat : Int)) = true ∧ decide ((x.toNat : Int) ≤ 126) = false) ∨
            (decide ((32 : Int) ≤ (x.toNat : Int)) = true ∧ decide ((x.toNat : Int) ≤ 126) = true ∧ ((x.toNat : Int) != 34) = false) ∨
            (decide ((32 : Int) ≤ (x.toNat : Int)) = true ∧ decide ((x.toNat : Int) ≤ 126) = true ∧ ((x.toNat : Int) != 34) = true ∧ ((x.toNat : Int) != 92) = false) := by
          have hn : ¬ (32 ≤ x.toNat ∧ x.toNat ≤ 126 ∧ x.toNat ≠ 34 ∧ x.toNat ≠ 92) := fun h => hpl (plainB_iff.2 h)
          simp only [decide_eq_true_eq, decide_eq_false_iff_not, bne_iff_ne, bne_eq_false_iff_eq, ne_eq]
          omega
        have HE2 := Lib.hid (HE.out [92, 120, hexD (x.toNat / 16), hexD (x.toNat % 16)] (by rw [escB, if_neg hpl]))
        clear hpl HE
        obtain ⟨a, ha⟩ : ∃ a, x.toNat / 16 = a := ⟨_, rfl⟩
        obtain ⟨b, hb⟩ : ∃ b, x.toNat % 16 = b := ⟨_, rfl⟩
        have ha16 : a < 16 := by omega
        have hb16 : b < 16 := by omega
        have n1 : IntKind.u8.wrap ((x.toNat : Int) / 16) = (a : Int) := by rw [IntKind.wrap_u8]; omega
        have n2 : IntKind.u8.wrap ((x.toNat : Int) % 16) = (b : Int) := by rw [IntKind.wrap_u8]; omega
        have n3 : (x.toNat : Int).tmod 16 = (b : Int) := by rw [Int.tmod_eq_emod_of_nonneg (by omega)]; omega
        have la : (a : Int) < 16 := by omega
        have lb : (b : Int) < 16 := by omega
        have d1 := digS_at a ha16
        have d2 := digS_at b hb16
        rw [ha, hb] at HE2
        clear ha hb
        rcases key with e1 | ⟨e1, e2⟩ | ⟨e1, e2, e3⟩ | ⟨e1, e2, e3, e4⟩
        · go_upto_region 10 with fail
          refine wp_region_held_drew (S := (fun W' => Below w.heap.size w W')) (by kernel_rfl) ?ss1 (fun hHeld => ?rr1)
          case ss1 => (try dsimp only); exact bdr HP.out.2 1
          refine rgt 0 37 rfl rfl hHeld ?_
          try simp only [Act.put, rg1, rg2, rg3]
          refine rgt 1 38 rfl rfl hHeld ?_
          try simp only [Act.put, rg1, rg2, rg3]
          refine rgt 2 39 rfl rfl hHeld ?_
          try simp only [Act.put, rg1, rg2, rg3]
          refine rgt 3 40 rfl rfl hHeld ?_
          try simp only [Act.put, rg1, rg2, rg3]
          refine rgt 4 41 rfl rfl hHeld ?_
          try simp only [Act.put, rg1, rg2, rg3]
          refine rgt 5 42 rfl rfl hHeld ?_
          try simp only [Act.put, rg1, rg2, rg3]
          refine rgt 6 43 rfl rfl hHeld ?_
          try simp only [Act.put, rg1, rg2, rg3]
          refine rgt 7 44 rfl rfl hHeld ?_
          try simp only [Act.put, rg1, rg2, rg3]
          refine rgt 8 45 rfl rfl hHeld ?_
          try simp only [Act.put, rg1, rg2, rg3]
          refine rgc 9 (some 46) rfl (fun K hK => ?_)
          go_simp
          go_simp
          refine hK.out _ _ ?ss11 (fun hHeld2 => ?rr11)
          case ss11 => (try dsimp only); exact bal hHeld _
          clear hK K
          clear hHeld
          have hHeld := hHeld2
          clear hHeld2
          try simp only [Act.put, rg1, rg2, rg3]
          refine rgc 10 (some 47) rfl (fun K hK => ?_)
          (refine step_append_sl rfl (.tmp 37) (.tmp 46) _ rfl w.heap.size 5 i0 _ 1 1 Tryz.underlying71 hi0 hz0 hz1 hz2 rfl (by omega) _ _ _ rfl (HP.out.on (bal (bdr b0 1) _)).1 (wr.heap.size + 1) (some ⟨wr.heap.size, 0, none⟩) 4 4 [.int .u8 92, .int .u8 120, .int .u8 (hexD a).toNat, .int .u8 (hexD b).toNat] rfl (Sl.many wr.drew _ _ 4 rfl) (by intro u hu; simp only [List.mem_cons, List.not_mem_nil, or_false] at hu; rcases hu with rfl | rfl | rfl | rfl <;> rfl) (by unfold maxLen; omega) (by omega) (by have := HP.out.2.size; have := hHeld.size; omega) ?_; intro V' w6 hown6 hg6 hV6; have HO2 := Lib.hid (HP.out.app (c := [92, 120, hexD a, hexD b]) (bal (bdr b0 1) _) hown6 hg6); clear hown6 hg6 hV6)
          refine hK.out _ _ ?ss12 (fun hHeld2 => ?rr12)
          case ss12 => (try dsimp only); exact HO2.out.2
          clear hK K
          clear hHeld
          have hHeld := hHeld2
          clear hHeld2
          try simp only [Act.put, rg1, rg2, rg3]
          refine rgt 11 4 rfl rfl hHeld ?_
          try simp only [Act.put, rg1, rg2, rg3]
          refine wpAnyH_done (by kernel_rfl) ?_ _
          go_wp2_with fail
          rw [HE2.out] at HO2
          go_roundg (s.length - (k + 1))
          case measure => omega
          case rel => exact ⟨k + 1, by omega, rfl, by go_num, HO2⟩
        · go_upto_region 10 with fail
          refine wp_region_held_drew (S := (fun W' => Below w.heap.size w W')) (by kernel_rfl) ?ss14 (fun hHeld => ?rr14)
          case ss14 => (try dsimp only); exact bdr HP.out.2 1
          refine rgt 0 37 rfl rfl hHeld ?_
          try simp only [Act.put, rg1, rg2, rg3]
          refine rgt 1 38 rfl rfl hHeld ?_
          try simp only [Act.put, rg1, rg2, rg3]
          refine rgt 2 39 rfl rfl hHeld ?_
          try simp only [Act.put, rg1, rg2, rg3]
          refine rgt 3 40 rfl rfl hHeld ?_
          try simp only [Act.put, rg1, rg2, rg3]
          refine rgt 4 41 rfl rfl hHeld ?_
          try simp only [Act.put, rg1, rg2, rg3]
          refine rgt 5 42 rfl rfl hHeld ?_
          try simp only [Act.put, rg1, rg2, rg3]
          refine rgt 6 43 rfl rfl hHeld ?_
          try simp only [Act.put, rg1, rg2, rg3]
          refine rgt 7 44 rfl rfl hHeld ?_
          try simp only [Act.put, rg1, rg2, rg3]
          refine rgt 8 45 rfl rfl hHeld ?_
          try simp only [Act.put, rg1, rg2, rg3]
          refine rgc 9 (some 46) rfl (fun K hK => ?_)
          go_simp
          go_simp
          refine hK.out _ _ ?ss24 (fun hHeld2 => ?rr24)
          case ss24 => (try dsimp only); exact bal hHeld _
          clear hK K
          clear hHeld
          have hHeld := hHeld2
          clear hHeld2
          try simp only [Act.put, rg1, rg2, rg3]
          refine rgc 10 (some 47) rfl (fun K hK => ?_)
          (refine step_append_sl rfl (.tmp 37) (.tmp 46) _ rfl w.heap.size 5 i0 _ 1 1 Tryz.underlying71 hi0 hz0 hz1 hz2 rfl (by omega) _ _ _ rfl (HP.out.on (bal (bdr b0 1) _)).1 (wr.heap.size + 1) (some ⟨wr.heap.size, 0, none⟩) 4 4 [.int .u8 92, .int .u8 120, .int .u8 (hexD a).toNat, .int .u8 (hexD b).toNat] rfl (Sl.many wr.drew _ _ 4 rfl) (by intro u hu; simp only [List.mem_cons, List.not_mem_nil, or_false] at hu; rcases hu with rfl | rfl | rfl | rfl <;> rfl) (by unfold maxLen; omega) (by omega) (by have := HP.out.2.size; have := hHeld.size; omega) ?_; intro V' w6 hown6 hg6 hV6; have HO2 := Lib.hid (HP.out.app (c := [92, 120, hexD a, hexD b]) (bal (bdr b0 1) _) hown6 hg6); clear hown6 hg6 hV6)
          refine hK.out _ _ ?ss25 (fun hHeld2 => ?rr25)
          case ss25 => (try dsimp only); exact HO2.out.2
          clear hK K
          clear hHeld
          have hHeld := hHeld2
          clear hHeld2
          try simp only [Act.put, rg1, rg2, rg3]
          refine rgt 11 4 rfl rfl hHeld ?_
          try simp only [Act.put, rg1, rg2, rg3]
          refine wpAnyH_done (by kernel_rfl) ?_ _
          go_wp2_with fail
          rw [HE2.out] at HO2
          go_roundg (s.length - (k + 1))
          case measure => omega
          case rel => exact ⟨k + 1, by omega, rfl, by go_num, HO2⟩
        · go_upto_region 10 with fail
          refine wp_region_held_drew (S := (fun W' => Below w.heap.size w W')) (by kernel_rfl) ?ss27 (fun hHeld => ?rr27)
          case ss27 => (try dsimp only); exact bdr HP.out.2 1
          refine rgt 0 37 rfl rfl hHeld ?_
          try simp only [Act.put, rg1, rg2, rg3]
          refine rgt 1 38 rfl rfl hHeld ?_
          try simp only [Act.put, rg1, rg2, rg3]
          refine rgt 2 39 rfl rfl hHeld ?_
          try simp only [Act.put, rg1, rg2, rg3]
          refine rgt 3 40 rfl rfl hHeld ?_
          try simp only [Act.put, rg1, rg2, rg3]
          refine rgt 4 41 rfl rfl hHeld ?_
          try simp only [Act.put, rg1, rg2, rg3]
          refine rgt 5 42 rfl rfl hHeld ?_
          try simp only [Act.put, rg1, rg2, rg3]
          refine rgt 6 43 rfl rfl hHeld ?_
          try simp only [Act.put, rg1, rg2, rg3]
          refine rgt 7 44 rfl rfl hHeld ?_
          try simp only [Act.put, rg1, rg2, rg3]
          refine rgt 8 45 rfl rfl hHeld ?_
          try simp only [Act.put, rg1, rg2, rg3]
          refine rgc 9 (some 46) rfl (fun K hK => ?_)
          go_simp
          go_simp
          refine hK.out _ _ ?ss37 (fun hHeld2 => ?rr37)
          case ss37 => (try dsimp only); exact bal hHeld _
          clear hK K
          clear hHeld
          have hHeld := hHeld2
          clear hHeld2
          try simp only [Act.put, rg1, rg2, rg3]
          refine rgc 10 (some 47) rfl (fun K hK => ?_)
          (refine step_append_sl rfl (.tmp 37) (.tmp 46) _ rfl w.heap.size 5 i0 _ 1 1 Tryz.underlying71 hi0 hz0 hz1 hz2 rfl (by omega) _ _ _ rfl (HP.out.on (bal (bdr b0 1) _)).1 (wr.heap.size + 1) (some ⟨wr.heap.size, 0, none⟩) 4 4 [.int .u8 92, .int .u8 120, .int .u8 (hexD a).toNat, .int .u8 (hexD b).toNat] rfl (Sl.many wr.drew _ _ 4 rfl) (by intro u hu; simp only [List.mem_cons, List.not_mem_nil, or_false] at hu; rcases hu with rfl | rfl | rfl | rfl <;> rfl) (by unfold maxLen; omega) (by omega) (by have := HP.out.2.size; have := hHeld.size; omega) ?_; intro V' w6 hown6 hg6 hV6; have HO2 := Lib.hid (HP.out.app (c := [92, 120, hexD a, hexD b]) (bal (bdr b0 1) _) hown6 hg6); clear hown6 hg6 hV6)
          refine hK.out _ _ ?ss38 (fun hHeld2 => ?rr38)
          case ss38 => (try dsimp only); exact HO2.out.2
          clear hK K
          clear hHeld
          have hHeld := hHeld2
          clear hHeld2
          try simp only [Act.put, rg1, rg2, rg3]
          refine rgt 11 4 rfl rfl hHeld ?_
          try simp only [Act.put, rg1, rg2, rg3]
          refine wpAnyH_done (by kernel_rfl) ?_ _
          go_wp2_with fail
          rw [HE2.out] at HO2
          go_roundg (s.length - (k + 1))
          case measure => omega
          case rel => exact ⟨k + 1, by omega, rfl, by go_num, HO2⟩
        · go_upto_region 10 with fail
          refine wp_region_held_drew (S := (fun W' => Below w.heap.size w W')) (by kernel_rfl) ?ss40 (fun hHeld => ?rr40)
          case ss40 => (try dsimp only); exact bdr HP.out.2 1
          refine rgt 0 37 rfl rfl hHeld ?_
          try simp only [Act.put, rg1, rg2, rg3]
          refine rgt 1 38 rfl rfl hHeld ?_
          try simp only [Act.put, rg1, rg2, rg3]
          refine rgt 2 39 rfl rfl hHeld ?_
          try simp only [Act.put, rg1, rg2, rg3]
          refine rgt 3 40 rfl rfl hHeld ?_
          try simp only [Act.put, rg1, rg2, rg3]
          refine rgt 4 41 rfl rfl hHeld ?_
          try simp only [Act.put, rg1, rg2, rg3]
          refine rgt 5 42 rfl rfl hHeld ?_
          try simp only [Act.put, rg1, rg2, rg3]
          refine rgt 6 43 rfl rfl hHeld ?_
          try simp only [Act.put, rg1, rg2, rg3]
          refine rgt 7 44 rfl rfl hHeld ?_
          try simp only [Act.put, rg1, rg2, rg3]
          refine rgt 8 45 rfl rfl hHeld ?_
          try simp only [Act.put, rg1, rg2, rg3]
          refine rgc 9 (some 46) rfl (fun K hK => ?_)
          go_simp
          go_simp
          refine hK.out _ _ ?ss50 (fun hHeld2 => ?rr50)
          case ss50 => (try dsimp only); exact bal hHeld _
          clear hK K
          clear hHeld
          have hHeld := hHeld2
          clear hHeld2
          try simp only [Act.put, rg1, rg2, rg3]
          refine rgc 10 (some 47) rfl (fun K hK => ?_)
          (refine step_append_sl rfl (.tmp 37) (.tmp 46) _ rfl w.heap.size 5 i0 _ 1 1 Tryz.underlying71 hi0 hz0 hz1 hz2 rfl (by omega) _ _ _ rfl (HP.out.on (bal (bdr b0 1) _)).1 (wr.heap.size + 1) (some ⟨wr.heap.size, 0, none⟩) 4 4 [.int .u8 92, .int .u8 120, .int .u8 (hexD a).toNat, .int .u8 (hexD b).toNat] rfl (Sl.many wr.drew _ _ 4 rfl) (by intro u hu; simp only [List.mem_cons, List.not_mem_nil, or_false] at hu; rcases hu with rfl | rfl | rfl | rfl <;> rfl) (by unfold maxLen; omega) (by omega) (by have := HP.out.2.size; have := hHeld.size; omega) ?_; intro V' w6 hown6 hg6 hV6; have HO2 := Lib.hid (HP.out.app (c := [92, 120, hexD a, hexD b]) (bal (bdr b0 1) _) hown6 hg6); clear hown6 hg6 hV6)
          refine hK.out _ _ ?ss51 (fun hHeld2 => ?rr51)
          case ss51 => (try dsimp only); exact HO2.out.2
          clear hK K
          clear hHeld
          have hHeld := hHeld2
          clear hHeld2
          try simp only [Act.put, rg1, rg2, rg3]
          refine rgt 11 4 rfl rfl hHeld ?_
          try simp only [Act.put, rg1, rg2, rg3]
          refine wpAnyH_done (by kernel_rfl) ?_ _
          go_wp2_with fail
          rw [HE2.out] at HO2
          go_roundg (s.length - (k + 1))
          case measure => omega
          case rel => exact ⟨k + 1, by omega, rfl, by go_num, HO2⟩
    · obtain rfl : k = s.length := by omega
      rw [List.take_length] at HP hln hin ⊢
      go_wp2_with (at_builtin; refine wpList_append_sl _ rfl (.tmp 48) (.tmp 49) _ rfl w.heap.size 5 i0 _ 1 1 Tryz.underlying71 hi0 hz0 hz1 hz2 rfl (by omega) _ _ _ rfl (HP.out.on (bal b0 _)).1 (wr.heap.size + 1) (some ⟨wr.heap.size, 0, none⟩) 1 1 [.int .u8 34] rfl (Sl.one wr _ _) (fun u hu => by rw [List.mem_singleton.1 hu]; rfl) (by unfold maxLen; omega) (by omega) (by have := HP.out.2.size; simp only [World.size_alloc]; omega) ?_; intro v' w2 hown2 hgrow _; have HO2 := Lib.hid (HP.out.app (c := [34]) (bal b0 _) hown2 hgrow); have hcv := conv_own HO2.out.1; unfold strV at hcv; clear hown2 hgrow)
      go_ret
      exact ⟨rfl, HO2.out.2⟩
end Go.Proofs.YtobplngonkdbpaaGreatDoor.D

/- AnB -/
namespace Go.Proofs.YtobplngonkdbpaaGreatDoor.D
open Go.RowKit
open Go.Proofs.YtobplngonkdbpaaGreatDoor.B
set_option linter.unusedVariables false
set_option linter.unusedSimpArgs false

theorem hexI_some {b : UInt8} {n : Nat} (h : hexV b = some n) : hexI b = n ∧ n < 16 := by
  have := hexI_lt b
  unfold hexI at this ⊢
  rw [h] at this ⊢
  exact ⟨rfl, by simp only at this; omega⟩
theorem hexI_none {b : UInt8} (h : hexV b = none) : hexI b = -1 := by
  unfold hexI; rw [h]
theorem hex_none (b : UInt8) (w : World) (h : hexV b = none) : Calls Tryz.prog 169 #[.int .u8 b.toNat] w fun e w' => e = .returned (.int .i64 (-1)) ∧ w = w' := by
  have := hexA_any b w
  rwa [hexI_none h] at this
theorem hex_some (b : UInt8) (w : World) (n : Nat) (h : hexV b = some n) : Calls Tryz.prog 169 #[.int .u8 b.toNat] w fun e w' => e = .returned (.int .i64 n) ∧ w = w' := by
  have := hexA_any b w
  rwa [(hexI_some h).1] at this
theorem unq_bare {s : Bs} : unq s = bareA s := (bareA_eq s).symm
/-- What the answer's look at a text in quotes returns. -/
def BareQ (s : Bs) (w : World) (e : Ending) (w' : World) : Prop :=
  ∃ (b : Bs) (g : Bool), e = .returned (.tuple #[strV b, .bool g]) ∧ g = (unq s).isSome ∧ (∀ t, unq s = some t → b = t) ∧ Below w.heap.size w w'
theorem bareQ_none {s : Bs} {w w' : World} (h : unq s = none) (hb : Below w.heap.size w w') : BareQ s w (.returned (.tuple #[strV [], .bool false])) w' :=
  ⟨[], false, rfl, (by rw [h]; rfl), (fun t ht => by rw [h] at ht; cases ht), hb⟩
theorem bareQ_end {s b : Bs} {w w' : World} (hu : unq s = if quoteL b = s then some b else none) (hb : Below w.heap.size w w') : BareQ s w (.returned (.tuple #[strV b, .bool (quoteL b == s)])) w' := by
  refine ⟨b, _, rfl, ?_, ?_, hb⟩
  · rw [hu]
    by_cases h : quoteL b = s
    · rw [if_pos h]; simpa using h
    · rw [if_neg h]; simpa using h
  · intro t ht
    rw [hu] at ht
    split at ht
    · injection ht
    · cases ht
theorem decA_plain {c : UInt8} {r : Bs} (h : c ≠ 92) : decA (c :: r) = (decA r).map (c :: ·) := by
  rw [decA.eq_def]; simp only [ne_eq, h, not_false_eq_true, if_true]
theorem bare_mid {s : Bs} (h2 : 2 ≤ s.length) (h3 : s.head? = some 34) (h4 : s.getLast? = some 34) : s = 34 :: ((s.drop 1).dropLast ++ [34]) := by
  obtain ⟨ys, rfl⟩ := List.getLast?_eq_some_iff.1 h4
  cases ys with
  | nil => simp at h2
  | cons a r =>
    simp only [List.cons_append, List.head?_cons, Option.some.injEq] at h3
    subst h3
    simp
theorem decA_three {x h k : UInt8} {r : Bs} : decA (92 :: x :: h :: k :: r) = (match hexV h, hexV k with | some a, some b => if x = 120 then (decA r).map (UInt8.ofNat (16 * a + b) :: ·) else none | _, _ => none) := by
  rw [decA, if_neg (fun h => h rfl)]
  cases hexV h <;> cases hexV k <;> rfl
set_option maxRecDepth 100000 in
set_option maxHeartbeats 4000000 in
theorem bare_any (s : Bs) (w : World) (hl : s.length ≤ 1073741824) :
    Calls Tryz.prog 147 #[strV s] w fun e w' => BareQ s w e w' := by
  obtain ⟨i0, hi0, hz0, hz1, hz2⟩ := info_parts Bd.infoU8
  have hsz := str_size s
  by_cases h2 : s.length < 2
  · have hu := Lib.hid (unq_short h2)
    unfold strV
    go_enter Tryz.func147, Tryz.ntmps147
    go_wp2_with fail
    go_ret2
    exact bareQ_none hu.out b0
  have h2' : 2 ≤ s.length := by omega
  obtain ⟨n, hn⟩ : ∃ n, s.length = n := ⟨_, rfl⟩
  obtain ⟨c0, r0, hs0⟩ : ∃ c r, s = c :: r := by cases s with | nil => simp at h2' | cons c r => exact ⟨c, r, rfl⟩
  obtain ⟨cl, hcl⟩ : ∃ c, s.getLast? = some c := by
    rcases h : s.getLast? with _ | c
    · rw [List.getLast?_eq_none_iff] at h; rw [hs0] at h; cases h
    · exact ⟨c, rfl⟩
  have hx0 : s[0]? = some c0 := by rw [hs0]; rfl
  have hxl : s[n - 1]? = some cl := by rw [← hn, ← List.getLast?_eq_getElem?]; exact hcl
  have hlt0 : 0 < (⟨s.toArray⟩ : ByteArray).size := by rw [hsz]; omega
  have at0 := str_at hx0 hlt0
  obtain ⟨m, hm⟩ : ∃ m, n - 1 = m := ⟨_, rfl⟩
  rw [hm] at hxl
  have hltm : m < (⟨s.toArray⟩ : ByteArray).size := by rw [hsz]; omega
  have atl := str_at hxl hltm
  rw [hn] at hsz
  have wl : IntKind.i64.wrap ((n : Int) - 1) = (m : Int) := by rw [IntWalk.i64_in _ ⟨by omega, by omega⟩]; omega
  have lm : (m : Int) < (n : Int) := by omega
  have d2 : decide ((n : Int) < 2) = false := by simp; omega
  have l0 : (0 : Int) < (n : Int) := by omega
  have hc0 := c0.toNat_lt
  by_cases h3 : c0 = 34
  rotate_left
  · have hu := Lib.hid (show unq s = none by rw [← bareA_eq, bareA, if_pos]; right; left; rw [hs0]; simp [h3])
    have e3 : ((c0.toNat : Int) != 34) = true := by
      have : c0.toNat ≠ 34 := fun e => h3 (UInt8.toNat_inj.1 e)
      simp; omega
    clear h3 hs0 hcl hx0 hxl hm hn
    unfold strV
    go_enter Tryz.func147, Tryz.ntmps147
    go_wp2_with fail
    go_ret2
    exact bareQ_none hu.out b0
  subst h3
  have e3 : (((34 : UInt8).toNat : Int) != 34) = false := by decide
  by_cases h4 : cl = 34
  rotate_left
  · have hu := Lib.hid (show unq s = none by rw [← bareA_eq, bareA, if_pos]; right; right; rw [hcl]; simp [h4])
    have e4 : ((cl.toNat : Int) != 34) = true := by
      have : cl.toNat ≠ 34 := fun e => h4 (UInt8.toNat_inj.1 e)
      simp; omega
    clear h4 hs0 hcl hx0 hxl hm hn
    unfold strV
    go_enter Tryz.func147, Tryz.ntmps147
    go_wp2_with fail
    go_ret2
    exact bareQ_none hu.out b0
  subst h4
  obtain ⟨q, hq⟩ : ∃ q, (s.drop 1).dropLast = q := ⟨_, rfl⟩
  have hsq : s = 34 :: (q ++ [34]) := by rw [← hq]; exact bare_mid h2' (by rw [hs0]; rfl) hcl
  have hu : ∀ d, decA q = d → unq s = match d with | some b => if quoteL b = s then some b else none | none => none := by
    intro d hd
    rw [← bareA_eq, bareA, if_neg (fun h => h.elim (fun h => absurd h (by omega)) fun h => h.elim (fun h => h (by rw [hs0]; rfl)) fun h => h hcl), hq, hd]
    cases d <;> rfl
  have hql : q.length + 2 = n := by rw [← hn, hsq]; simp
  have hat : ∀ j y, q[j]? = some y → s[j + 1]? = some y := by
    intro j y hj
    obtain ⟨hj1, hj2⟩ := List.getElem?_eq_some_iff.1 hj
    rw [hsq, List.getElem?_cons_succ, List.getElem?_append_left hj1]; exact hj
  have HU := Lib.hid hu
  have HAT := Lib.hid (fun j y (h : q[j]? = some y) (hj : j + 1 < (⟨s.toArray⟩ : ByteArray).size) => str_at (hat j y h) hj)
  have HM := Lib.hid hm
  have HNN := Lib.hid (show n ≤ 1073741824 by rw [← hn]; exact hl)
  have HN := Lib.hid hn
  have HQL := Lib.hid hql
  clear hu hat hq hsq hx0 hxl hs0 hcl hm hn
  unfold strV
  go_enter Tryz.func147, Tryz.ntmps147
  go_wp2_with fail
  go_loopg [4, 5] q.length (fun g u i wr => ∃ (k : Nat) (b : Bs), k ≤ q.length ∧ g = q.length - k ∧ i = .int .i64 (k + 1 : Nat) ∧ Hid (OB w wr u b ∧ b.length ≤ k ∧ decA q = (decA (q.drop k)).map (b ++ ·)))
  case atStart => exact ⟨0, [], by omega, rfl, rfl, Lib.hid ⟨OB.nil w, Nat.le_refl 0, by simp⟩⟩
  case round =>
    obtain ⟨k, b, hk, rfl, rfl, HP⟩ := hrel
    have hbk := HP.out.2.1
    obtain ⟨AV, cV, rfl, hc1, hc2⟩ := own_shape HP.out.1.1
    have hql2 := HQL.out
    have hkn : k < 1073741824 := by have := HNN.out; omega
    by_cases hlt : k < q.length
    rotate_left
    · obtain rfl : k = q.length := by omega
      have hd : decA q = some b := by rw [HP.out.2.2, List.drop_length]; simp [decA]
      have hu := HU.out _ hd
      have HF := Lib.hid hu
      have hcv := conv_own HP.out.1.1
      have hQ := Lib.hid (quoted_any b wr (by omega))
      have g1 : decide (((q.length + 1 : Nat) : Int) < (m : Int)) = false := by have := HM.out; simp; omega
      have g2 : ¬ ((q.length : Int) + 1 < (m : Int)) := by have := HM.out; omega
      unfold strV at hcv hQ
      clear hd hu hlt
      go_wp2_with fail
      (refine hQ.out.mono ?_); rintro ev w2 ⟨rfl, hb2⟩
      go_wp2_with fail
      go_ret2
      exact bareQ_end HF.out (bl HP.out.1.2 hb2)
    · obtain ⟨c, hc⟩ : ∃ c, q[k]? = some c := ⟨_, List.getElem?_eq_getElem hlt⟩
      have hcl : k + 1 < (⟨s.toArray⟩ : ByteArray).size := by rw [hsz]; omega
      have hat := HAT.out k c hc hcl
      have hc255 := c.toNat_lt
      have hdr : q.drop k = c :: q.drop (k + 1) := by
        rw [List.drop_eq_getElem_cons hlt]; congr 1; exact (List.getElem?_eq_some_iff.1 hc).2
      have HC := Lib.hid hc
      have g1 : ((k : Int) + 1 < (m : Int)) := by have := HM.out; omega
      have g3 : ((k : Int) + 1 < (n : Int)) := by omega
      clear hc
      by_cases h92 : c = 92
      · subst h92
        have e92 : (((92 : UInt8).toNat : Int) != 92) = false := by decide
        obtain ⟨r, hr⟩ : ∃ r, q.drop (k + 1) = r := ⟨_, rfl⟩
        have hrl : r.length + (k + 1) = q.length := by rw [← hr, List.length_drop]; omega
        rw [hr] at hdr
        have w1 : IntKind.i64.wrap ((k : Int) + 1 + 3) = ((k + 4 : Nat) : Int) := by rw [IntWalk.i64_in _ ⟨by omega, by omega⟩]; omega
        have w2 : IntKind.i64.wrap ((n : Int) - 2) = (q.length : Int) := by have := HNN.out; rw [IntWalk.i64_in _ ⟨by omega, by omega⟩]; omega
        have bad : decA r = decA r → (r.length < 3 ∨ ∃ x h y r2, r = x :: h :: y :: r2) := fun _ => by
          rcases r with _ | ⟨x, _ | ⟨h, _ | ⟨y, r2⟩⟩⟩
          · left; simp
          · left; simp
          · left; simp
          · right; exact ⟨_, _, _, _, rfl⟩
        rcases bad rfl with h3 | ⟨x, h, y, r2, rfl⟩
        · have hd : decA q = none := by
            rw [HP.out.2.2, hdr]
            rcases r with _ | ⟨x, _ | ⟨h, _ | ⟨y, r2⟩⟩⟩
            · rfl
            · rfl
            · rfl
            · simp at h3; omega
          have HF := Lib.hid (HU.out _ hd)
          have g4 : (q.length : Int) < (k : Int) + 4 := by omega
          clear hd hdr hr bad h3
          go_wp2_with fail
          go_ret2
          exact bareQ_none HF.out HP.out.1.2
        · have e1 : q[k + 1]? = some x := by rw [← List.head?_drop, hr]; rfl
          have e2 : q[k + 2]? = some h := by rw [show k + 2 = (k + 1) + 1 from rfl, ← List.getElem?_drop, hr]; rfl
          have e3 : q[k + 3]? = some y := by rw [show k + 3 = (k + 1) + 2 from rfl, ← List.getElem?_drop, hr]; rfl
          simp only [List.length_cons] at hrl
          have hd1 : q.drop (k + 4) = r2 := by rw [show k + 4 = (k + 1) + 3 from rfl, ← List.drop_drop, hr]; rfl
          obtain ⟨i1, hi1⟩ : ∃ i, k + 1 + 1 = i := ⟨_, rfl⟩
          obtain ⟨i2, hi2⟩ : ∃ i, k + 2 + 1 = i := ⟨_, rfl⟩
          obtain ⟨i3, hi3⟩ : ∃ i, k + 3 + 1 = i := ⟨_, rfl⟩
          have hnl := HNN.out
          have l1 : i1 < (⟨s.toArray⟩ : ByteArray).size := by rw [hsz]; omega
          have l2 : i2 < (⟨s.toArray⟩ : ByteArray).size := by rw [hsz]; omega
          have l3 : i3 < (⟨s.toArray⟩ : ByteArray).size := by rw [hsz]; omega
          have m1 : (i1 : Int) < (n : Int) := by omega
          have m2 : (i2 : Int) < (n : Int) := by omega
          have m3 : (i3 : Int) < (n : Int) := by omega
          have v1 : IntKind.i64.wrap ((k : Int) + 1 + 1) = (i1 : Int) := by rw [IntWalk.i64_in _ ⟨by omega, by omega⟩]; omega
          have v2 : IntKind.i64.wrap ((k : Int) + 1 + 2) = (i2 : Int) := by rw [IntWalk.i64_in _ ⟨by omega, by omega⟩]; omega
          have v3 : IntKind.i64.wrap ((k : Int) + 1 + 3) = (i3 : Int) := by rw [IntWalk.i64_in _ ⟨by omega, by omega⟩]; omega
          have q1 : (⟨s.toArray⟩ : ByteArray)[i1]'l1 = x := by have := HAT.out (k + 1) x e1 (by rw [hi1]; exact l1); simp only [hi1] at this; exact this
          have q2 : (⟨s.toArray⟩ : ByteArray)[i2]'l2 = h := by have := HAT.out (k + 2) h e2 (by rw [hi2]; exact l2); simp only [hi2] at this; exact this
          have q3 : (⟨s.toArray⟩ : ByteArray)[i3]'l3 = y := by have := HAT.out (k + 3) y e3 (by rw [hi3]; exact l3); simp only [hi3] at this; exact this
          have g4 : ¬ ((q.length : Int) < (i3 : Int)) := by omega
          have hx255 := x.toNat_lt
          have HD := Lib.hid (show decA q = ((match hexV h, hexV y with | some a, some b => if x = 120 then (decA r2).map (UInt8.ofNat (16 * a + b) :: ·) else none | _, _ => none).map (b ++ ·)) by rw [HP.out.2.2, hdr, decA_three])
          have HI := Lib.hid (And.intro hi3 (And.intro hrl hd1))
          clear hr bad hi1 hi2 hi3 hdr e1 e2 e3 w1 hd1 hrl hnl
          by_cases hx : x = 120
          rotate_left
          · have g5 : ((x.toNat : Int) != 120) = true := by
              have : x.toNat ≠ 120 := fun e => hx (UInt8.toNat_inj.1 e)
              simp; omega
            have HF := Lib.hid (HU.out none (by rw [HD.out]; cases hexV h <;> cases hexV y <;> simp [hx]))
            clear hx
            go_wp2_with fail
            go_ret2
            exact bareQ_none HF.out HP.out.1.2
          subst hx
          have g5 : (((120 : UInt8).toNat : Int) != 120) = false := by decide
          rcases hh : hexV h with _ | a
          · have HF := Lib.hid (HU.out none (by rw [HD.out, hh]; simp))
            have hc1 := Lib.hid (fun W => hex_none h W hh)
            clear hh
            go_wp2_with fail
            (refine (hc1.out _).mono ?_); rintro ev w5 ⟨rfl, rfl⟩
            go_wp2_with fail
            go_ret2
            exact bareQ_none HF.out HP.out.1.2
          · have hc1 := Lib.hid (fun W => hex_some h W a hh)
            have ha := (hexI_some hh).2
            rcases hy : hexV y with _ | c
            · have HF := Lib.hid (HU.out none (by rw [HD.out, hh, hy]; simp))
              have hc3 := Lib.hid (fun W => hex_none y W hy)
              clear hh hy
              go_wp2_with fail
              (refine (hc1.out _).mono ?_); rintro ev w5 ⟨rfl, rfl⟩
              go_wp2_with fail
              (refine (hc3.out _).mono ?_); rintro ev w5 ⟨rfl, rfl⟩
              go_wp2_with fail
              go_ret2
              exact bareQ_none HF.out HP.out.1.2
            · have hc3 := Lib.hid (fun W => hex_some y W c hy)
              have hc := (hexI_some hy).2
              have HDD := Lib.hid (show decA q = (decA r2).map ((b ++ [UInt8.ofNat (16 * a + c)]) ++ ·) by
                rw [HD.out, hh, hy]
                simp only [if_true, Option.map_map]
                congr 1; funext t; simp)
              clear hh hy HD
              go_wp2_with fail
              (refine (hc1.out _).mono ?_); rintro ev w5 ⟨rfl, rfl⟩
              go_wp2_with fail
              (refine (hc3.out _).mono ?_); rintro ev w5 ⟨rfl, rfl⟩
              obtain ⟨u, hu⟩ : ∃ u, 16 * a = u := ⟨_, rfl⟩
              obtain ⟨v, hv⟩ : ∃ v, 16 * a + c = v := ⟨_, rfl⟩
              have x1 : IntKind.i64.wrap (16 * (a : Int)) = (u : Int) := by rw [IntWalk.i64_in _ ⟨by omega, by omega⟩]; omega
              have x2 : IntKind.i64.wrap ((u : Int) + (c : Int)) = (v : Int) := by rw [IntWalk.i64_in _ ⟨by omega, by omega⟩]; omega
              have x3 : IntKind.u8.wrap (v : Int) = (v : Int) := by rw [IntKind.wrap_u8]; omega
              have hv256 : v < 256 := by omega
              have hvn : (UInt8.ofNat v).toNat = v := by simp only [UInt8.toNat_ofNat']; omega
              rw [hv] at HDD
              have HVN := Lib.hid hvn
              clear hu hv hvn
              go_upto_region 11 with fail
              refine wp_region_held_drew (S := (fun W' => Below w.heap.size w W')) (by kernel_rfl) ?ss1 (fun hHeld => ?rr1)
              case ss1 => (try dsimp only); exact bdr HP.out.1.2 1
              refine rgt 0 69 rfl rfl hHeld ?_
              try simp only [Act.put, rg1, rg2, rg3]
              refine rgt 1 70 rfl rfl hHeld ?_
              try simp only [Act.put, rg1, rg2, rg3]
              refine rgt 2 71 rfl rfl hHeld ?_
              try simp only [Act.put, rg1, rg2, rg3]
              refine rgt 3 72 rfl rfl hHeld ?_
              try simp only [Act.put, rg1, rg2, rg3]
              refine rgt 4 73 rfl rfl hHeld ?_
              try simp only [Act.put, rg1, rg2, rg3]
              refine rgt 7 76 rfl rfl hHeld ?_
              try simp only [Act.put, rg1, rg2, rg3]
              refine rgt 8 77 rfl rfl hHeld ?_
              try simp only [Act.put, rg1, rg2, rg3]
              refine rgt 9 78 rfl rfl hHeld ?_
              try simp only [Act.put, rg1, rg2, rg3]
              refine rgt 10 79 rfl rfl hHeld ?_
              try simp only [Act.put, rg1, rg2, rg3]
              refine rgc 5 (some 74) rfl (fun K hK => ?_)
              go_simp
              ((refine (hc1.out _).mono ?_); rintro e w5 ⟨rfl, rfl⟩)
              refine hK.out _ _ ?ss11 (fun hHeld2 => ?rr11)
              case ss11 => (try dsimp only); exact hHeld
              clear hK K
              clear hHeld
              have hHeld := hHeld2
              clear hHeld2
              try simp only [Act.put, rg1, rg2, rg3]
              refine rgt 6 75 rfl rfl hHeld ?_
              try simp only [Act.put, rg1, rg2, rg3]
              refine rgc 11 (some 80) rfl (fun K hK => ?_)
              go_simp
              ((refine (hc3.out _).mono ?_); rintro e w6 ⟨rfl, rfl⟩)
              refine hK.out _ _ ?ss13 (fun hHeld2 => ?rr13)
              case ss13 => (try dsimp only); exact hHeld
              clear hK K
              clear hHeld
              have hHeld := hHeld2
              clear hHeld2
              try simp only [Act.put, rg1, rg2, rg3]
              refine rgt 12 81 rfl rfl hHeld ?_
              try simp only [Act.put, rg1, rg2, rg3]
              refine rgt 13 82 rfl rfl hHeld ?_
              try simp only [Act.put, rg1, rg2, rg3]
              refine rgc 14 (some 83) rfl (fun K hK => ?_)
              go_simp
              go_simp
              refine hK.out _ _ ?ss16 (fun hHeld2 => ?rr16)
              case ss16 => (try dsimp only); exact bal hHeld _
              clear hK K
              clear hHeld
              have hHeld := hHeld2
              clear hHeld2
              try simp only [Act.put, rg1, rg2, rg3]
              refine rgc 15 (some 84) rfl (fun K hK => ?_)
              (refine step_append_sl rfl (.tmp 69) (.tmp 83) _ rfl w.heap.size 5 i0 _ 1 1 Tryz.underlying71 hi0 hz0 hz1 hz2 rfl (by omega) _ _ _ rfl (HP.out.1.on (bal (bdr b0 1) _)).1 (wr.heap.size + 1) (some ⟨wr.heap.size, 0, none⟩) 1 1 [.int .u8 v] rfl (Sl.many wr.drew _ _ 1 rfl) (by intro u hu; rw [List.mem_singleton.1 hu]; rfl) (by unfold maxLen; omega) (by omega) (by have := HP.out.1.2.size; have := hHeld.size; omega) ?_; intro V' w7 hown7 hg7 hV7; have HO2 := Lib.hid (HP.out.1.app (c := [UInt8.ofNat v]) (bal (bdr b0 1) _) (by rw [show Lib.byteCells [UInt8.ofNat v] = [.int .u8 v] by simp only [Lib.byteCells, List.map_cons, List.map_nil, HVN.out]]; exact hown7) hg7); clear hown7 hg7 hV7)
              refine hK.out _ _ ?ss17 (fun hHeld2 => ?rr17)
              case ss17 => (try dsimp only); exact HO2.out.2
              clear hK K
              clear hHeld
              have hHeld := hHeld2
              clear hHeld2
              try simp only [Act.put, rg1, rg2, rg3]
              refine rgt 16 4 rfl rfl hHeld ?_
              try simp only [Act.put, rg1, rg2, rg3]
              refine wpAnyH_done (by kernel_rfl) ?_ _
              have z1 : IntKind.i64.wrap ((k : Int) + 1 + 3) = ((k + 4 : Nat) : Int) := by rw [IntWalk.i64_in _ ⟨by omega, by omega⟩]; omega
              have z2 := HI.out.2.1
              clear v3
              go_wp2_with fail
              go_roundg (q.length - (k + 4))
              case measure => omega
              case rel => exact ⟨k + 4, b ++ [UInt8.ofNat v], by omega, rfl, by go_num, Lib.hid ⟨HO2.out, by rw [List.length_append, List.length_singleton]; omega, by rw [HI.out.2.2]; exact HDD.out⟩⟩
      · have e92 : ((c.toNat : Int) != 92) = true := by
          have : c.toNat ≠ 92 := fun e => h92 (UInt8.toNat_inj.1 e)
          simp; omega
        have HD := Lib.hid (show decA q = (decA (q.drop (k + 1))).map ((b ++ [c]) ++ ·) by
          rw [HP.out.2.2, hdr, decA_plain h92, Option.map_map]
          congr 1; funext t; simp)
        clear hdr h92
        go_wp2_with (at_builtin; refine wpList_append_sl _ rfl (.tmp 34) (.tmp 38) _ rfl w.heap.size 5 i0 _ 1 1 Tryz.underlying71 hi0 hz0 hz1 hz2 rfl (by omega) _ _ _ rfl (HP.out.1.on (bal b0 _)).1 (wr.heap.size + 1) (some ⟨wr.heap.size, 0, none⟩) 1 1 [.int .u8 c.toNat] rfl (Sl.one wr _ _) (fun u hu => by rw [List.mem_singleton.1 hu]; rfl) (by unfold maxLen; omega) (by omega) (by have := HP.out.1.2.size; simp only [World.size_alloc]; omega) ?_; intro v' w2 hown2 hgrow _; have HO2 := Lib.hid (HP.out.1.app (c := [c]) (bal b0 _) hown2 hgrow); clear hown2 hgrow)
        go_roundg (q.length - (k + 1))
        case measure => omega
        case rel => exact ⟨k + 1, b ++ [c], by omega, rfl, by go_num, Lib.hid ⟨HO2.out, by rw [List.length_append, List.length_singleton]; omega, HD.out⟩⟩
end Go.Proofs.YtobplngonkdbpaaGreatDoor.D
