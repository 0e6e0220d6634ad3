/- Contract: cut (the tokens of a text). -/
import Derived.Test.YthonnpjlkcjoeaaGreatDoorRdJ
import Derived.Deep.Cut
import Derived.Deep.CutRange
import Derived.Deep.DeepCutAuto
namespace Go.Proofs.YthonnpjlkcjoeaaGreatDoor.T
open Go.RowKit Go.Proofs.YthonnpjlkcjoeaaGreatDoor.B
set_option linter.unusedSimpArgs false
set_option linter.unusedVariables false

theorem CutSt.iterAt {w0 W : World} {g : Nat} {s : ByteArray} {vl : Value} {l : List Tok} {word : Int} {pos : Nat} (h : CutSt w0 W g s vl l word pos) (p2 : Nat) : CutSt w0 (W.iterAt (g + 3) s p2) g s vl l word p2 := by
  have hk : ∀ i, i ≠ g + 3 → (W.iterAt (g + 3) s p2).heap[i]? = W.heap[i]? := fun i hi => Lib.iterAt_other W (g + 3) i s p2 hi
  refine ⟨(hk g (by omega)).trans h.hs, (hk _ (by omega)).trans h.hl, (hk _ (by omega)).trans h.hw, Lib.iterAt_heap W (g + 3) s pos p2 h.it, ?_, Lib.below_iterAt h.b (by omega) s p2⟩
  exact ownsRow_iterAt h.own (by omega) s p2
theorem CutSt.below {w0 W W' : World} {g : Nat} {s : ByteArray} {vl : Value} {l : List Tok} {word : Int} {pos : Nat} (h : CutSt w0 W g s vl l word pos) (hb : Below W.heap.size W W') : CutSt w0 W' g s vl l word pos := by
  have hz := h.size
  exact ⟨h.hs.below hb (by omega), h.hl.below hb (by omega), h.hw.below hb (by omega), (hb.block (g + 3) (by omega)).trans h.it, own_below h.own hb, h.b.trans (hb.mono (by omega))⟩
theorem CutSt.cells {w0 W : World} {g : Nat} {s : ByteArray} {vl : Value} {l : List Tok} {word : Int} {pos : Nat} (h : CutSt w0 W g s vl l word pos) :
    (W.cell? ⟨g, 0, none⟩ = some (.string s) ∧ W.cell? ⟨g + 1, 0, none⟩ = some vl ∧ W.cell? ⟨g + 2, 0, none⟩ = some (.int .i64 word)) ∧ W.frozen? ⟨g + 1, 0, none⟩ = false ∧ W.frozen? ⟨g + 2, 0, none⟩ = false :=
  ⟨⟨(h.hs.cell 0).trans rfl, (h.hl.cell 0).trans rfl, (h.hw.cell 0).trans rfl⟩, h.hl.frozen 0, h.hw.frozen 0⟩

/-- At the head of cut's loop. -/
def LInv (s : ByteArray) (l : List Tok) (pos : Nat) (word : Int) (b : Bool) : Prop :=
  (b = false → Inv s l pos word) ∧ (b = true → word = -1 ∧ (∃ h : pos < s.size, s[pos]'h = 62) ∧ tk s 0 = l ++ tk s (pos + 1) ∧ l.length ≤ pos)

/-- Behind a flush, whether or not a word was open. -/
def FlushR (s : ByteArray) (g pos p : Nat) (w0 : World) (e : Ending) (w' : World) : Prop :=
  e = .returned (.tuple #[]) ∧ ∃ v' l', CutSt w0 w' g s v' l' (-1) pos ∧ tk s 0 = l' ++ tk s p ∧ l'.length ≤ p
theorem flush_any (g : Nat) (s : ByteArray) (vl : Value) (l : List Tok) (pos p : Nat) (word : Int) (w0 w : World) (h : CutSt w0 w g s vl l word pos) (hi : Inv s l p word) (hp : p ≤ s.size) (hs : s.size ≤ 2147483647)
    (hst : ∀ k : Nat, word = k → p = s.size ∨ ∃ (h : p < s.size) (c : UInt8), s[p] = c ∧ insideB c = false) :
    Calls Tryz.prog 74 #[.int .i64 p, ptr (g + 2), ptr (g + 1), ptr g] w fun e w' => FlushR s g pos p w0 e w' := by
  rcases hi with ⟨rfl, ht, hl⟩ | ⟨k, rfl, hw⟩
  · exact (flush_no g s vl l pos p w0 w h).mono fun e w' ⟨h1, h2⟩ => ⟨h1, vl, l, by rw [← h2]; exact h, ht, hl⟩
  · have h1 := hw.hn
    have h2 := hw.hk
    exact (flush_yes g s vl l pos k p w0 w h (Nat.le_of_lt hw.hk) hp (by omega) (by omega)).mono fun e w' ⟨h1, v', h2⟩ => ⟨h1, v', _, h2, hw.flush (hst k rfl), by
      rw [List.length_append, List.length_singleton]; omega⟩

def CutR (s : ByteArray) (w : World) (e : Ending) (w' : World) : Prop :=
  ∃ A c, e = .returned (.slice A (tk s 0).length c) ∧ (tk s 0).length ≤ c ∧ Sl w' w'.heap.size 3 A (tk s 0).length (tcells (tk s 0)) ∧ Below w.heap.size w w'

set_option maxRecDepth 100000 in
set_option maxHeartbeats 4000000 in
theorem cut_any (s : ByteArray) (w : World) (hs : s.size ≤ 2147483647) :
    Calls Tryz.prog 64 #[.string s] w fun e w' => CutR s w e w' := by
  obtain ⟨i0, hi0, hz0, hz1, hz2⟩ := info_parts infoTok
  obtain ⟨g, hg⟩ : ∃ g, w.heap.size = g := ⟨_, rfl⟩
  have hst : CutSt w ((((w.alloc (.cells #[.string s] 9)).alloc (.cells #[.slice none 0 0] 127)).alloc (.cells #[.int .i64 (-1)] 3)).alloc (.stringIter s 0)) g s (.slice none 0 0) [] (-1) 0 := by
    subst hg
    refine ⟨((Blk.new w _ _).alloc _ |>.alloc _).alloc _, ?_, ?_, ?_, World.ownsRow_nil _ _ _ _, ?_⟩
    · have := ((Blk.new (w.alloc (.cells #[.string s] 9)) 127 #[.slice none 0 0]).alloc (.cells #[.int .i64 (-1)] 3)).alloc (.stringIter s 0)
      simpa using this
    · have := (Blk.new ((w.alloc (.cells #[.string s] 9)).alloc (.cells #[.slice none 0 0] 127)) 3 #[.int .i64 (-1)]).alloc (.stringIter s 0)
      simpa using this
    · have := heap_alloc_new (((w.alloc (.cells #[.string s] 9)).alloc (.cells #[.slice none 0 0] 127)).alloc (.cells #[.int .i64 (-1)] 3)) (.stringIter s 0)
      simpa using this
    · exact bal (bal (bal (bal (Below.refl _ _) _) _) _) _
  have HST := Lib.hid hst
  clear hst
  go_enter Tryz.func64, Tryz.ntmps64
  go_wp2_with fail
  go_loopg [5] s.size (fun m ar wr => ∃ (pos : Nat) (word : Int) (vl : Value) (l : List Tok) (b : Bool), pos ≤ s.size ∧ m = s.size - pos ∧ ar = .bool b ∧ CutSt w wr g s vl l word pos ∧ Hid (LInv s l pos word b))
  case atStart => exact ⟨0, -1, _, [], false, by omega, rfl, rfl, HST.out, Lib.hid ⟨fun _ => .inl ⟨rfl, by simp, by simp⟩, fun h => by cases h⟩⟩
  case round =>
    obtain ⟨pos, word, vl, l, b, hp, rfl, rfl, hC, HI⟩ := hrel
    clear HST
    by_cases hlt : pos < s.size
    · have hr := runeAt s pos hlt
      obtain ⟨r, hrr⟩ : ∃ r, (Utf8.decode s pos).1 = r := ⟨_, rfl⟩
      obtain ⟨wd, hww⟩ : ∃ wd, (Utf8.decode s pos).2 = wd := ⟨_, rfl⟩
      rw [hrr, hww] at hr
      have hC1 := hC.iterAt (pos + wd)
      have hnx : ∀ ty, (Instr.next (.pointer (some ⟨g + 3, 0, none⟩)) true ty).run Tryz.prog wr = _ := fun ty => Lib.run_next_any_at wr (g + 3) s pos ty hC.it hlt
      rw [hrr, hww] at hnx
      obtain ⟨W1, hW1⟩ : ∃ W1, wr.iterAt (g + 3) s (pos + wd) = W1 := ⟨_, rfl⟩
      rw [hW1] at hC1 hnx
      have HC1 := Lib.hid hC1
      have HR := Lib.hid hr
      clear hC hC1 hr hrr hww hW1
      have hr0 : r ≤ 2147483647 := HR.out.max
      go_upto_region 7 with fail
      go_cut [9] from 17 to 30 (fun v wx => v = .bool (ltI r) ∧ wx = W1)
      case first =>
        by_cases a1 : 97 ≤ r
        · by_cases a2 : r ≤ 122
          · have LT : Hid (ltI r = true) := Lib.hid (by unfold ltI; rw [Bool.eq_iff_iff] <;> first | (simp; done) | (simp; omega))
            go_wp2_with fail
            go_meet
            case rel => exact ⟨congrArg Value.bool (by rw [LT.out] <;> first | rfl | (simp; done) | (simp; omega)), rfl⟩
          · have a3 : ¬ r ≤ 90 := by omega
            have LT : Hid (ltI r = false) := Lib.hid (by unfold ltI; rw [Bool.eq_iff_iff] <;> first | (simp; done) | (simp; omega))
            go_wp2_with fail
            go_meet
            case rel => exact ⟨congrArg Value.bool (by rw [LT.out] <;> first | rfl | (simp; done) | (simp; omega)), rfl⟩
        · by_cases a2 : 65 ≤ r
          · by_cases a3 : r ≤ 90
            · have LT : Hid (ltI r = true) := Lib.hid (by unfold ltI; rw [Bool.eq_iff_iff] <;> first | (simp; done) | (simp; omega))
              go_wp2_with fail
              go_meet
              case rel => exact ⟨congrArg Value.bool (by rw [LT.out] <;> first | rfl | (simp; done) | (simp; omega)), rfl⟩
            · have LT : Hid (ltI r = false) := Lib.hid (by unfold ltI; rw [Bool.eq_iff_iff] <;> first | (simp; done) | (simp; omega))
              go_wp2_with fail
              go_meet
              case rel => exact ⟨congrArg Value.bool (by rw [LT.out] <;> first | rfl | (simp; done) | (simp; omega)), rfl⟩
          · have LT : Hid (ltI r = false) := Lib.hid (by unfold ltI; rw [Bool.eq_iff_iff] <;> first | (simp; done) | (simp; omega))
            go_wp2_with fail
            go_meet
            case rel => exact ⟨congrArg Value.bool (by rw [LT.out] <;> first | rfl | (simp; done) | (simp; omega)), rfl⟩
      case rest =>
        obtain ⟨rfl, hwx⟩ := hcut
        subst hwx
        rcases b with _ | _
        rotate_left
        · obtain ⟨rfl, ⟨_, h62⟩, ht, hl⟩ := HI.out.2 rfl
          have h1 := HR.out.low (by rw [h62]; decide)
          obtain rfl : wd = 1 := h1.2
          clear h1 h62
          have HT := Lib.hid ht
          clear ht
          go_wp2_with fail
          go_roundg (s.size - (pos + 1))
          case measure => omega
          case rel => exact ⟨pos + 1, -1, vl, l, false, hlt, rfl, rfl, HC1.out, Lib.hid ⟨fun _ => .inl ⟨rfl, HT.out, by omega⟩, fun h => by cases h⟩⟩
        have hinv : Hid (Inv s l pos word) := Lib.hid (HI.out.1 rfl)
        clear HI
        obtain ⟨⟨c0, c1, c2⟩, f1, f2⟩ := HC1.out.cells
        go_upto_region 10 with fail
        go_cut [9, 33] from 34 to 50 (fun v9 v wx => v9 = .bool (ltI r) ∧ v = .bool (decide (0 ≤ word) && insI r) ∧ wx = wc)
        case first =>
          rcases hinv.out with ⟨rfl, _, _⟩ | ⟨k, rfl, _⟩
          · go_wp2_with fail
            go_meet
            case rel => exact ⟨rfl, by simp, rfl⟩
          · have hins : ∀ z, ltI r = z → insI r = (z || (decide (48 ≤ (r : Int)) && decide ((r : Int) ≤ 57)) || (r : Int) == 95) := fun z hz => by unfold insI; rw [hz]
            obtain ⟨z, hz⟩ : ∃ z, ltI r = z := ⟨_, rfl⟩
            have HINS := Lib.hid (hins z hz)
            have HZ := Lib.hid hz
            rw [hz]
            clear hins hz
            cases z
            · by_cases a1 : 48 ≤ r
              · by_cases a2 : r ≤ 57
                · go_wp2_with fail
                  go_meet
                  case rel => exact ⟨by rw [HZ.out], congrArg Value.bool (by rw [HINS.out, Bool.eq_iff_iff]; first | (simp; done) | (simp; omega)), rfl⟩
                · go_wp2_with fail
                  go_meet
                  case rel => exact ⟨by rw [HZ.out], congrArg Value.bool (by rw [HINS.out, Bool.eq_iff_iff]; first | (simp; done) | (simp; omega)), rfl⟩
              · go_wp2_with fail
                go_meet
                case rel => exact ⟨by rw [HZ.out], congrArg Value.bool (by rw [HINS.out, Bool.eq_iff_iff]; first | (simp; done) | (simp; omega)), rfl⟩
            · go_wp2_with fail
              go_meet
              case rel => exact ⟨by rw [HZ.out], congrArg Value.bool (by rw [HINS.out, Bool.eq_iff_iff]; first | (simp; done) | (simp; omega)), rfl⟩
        case rest =>
          obtain ⟨rfl, rfl, hwx⟩ := hcut
          subst hwx
          obtain ⟨x, hx⟩ : ∃ x, (decide (0 ≤ word) && insI r) = x := ⟨_, rfl⟩
          have HX := Lib.hid hx
          rw [hx]
          clear hx
          rcases x with _ | _
          rotate_left
          · -- the word goes on
            have hx := HX.out
            simp only [Bool.and_eq_true, decide_eq_true_iff] at hx
            rcases hinv.out with ⟨rfl, _, _⟩ | ⟨k, rfl, hw⟩
            · exact absurd hx.1 (by omega)
            have hib : insideB (s[pos]'hlt) = true := by rw [← HR.out.ins]; exact hx.2
            have h1 := HR.out.low (inside_low hib)
            obtain rfl : wd = 1 := h1.2
            have HW := Lib.hid (hw.cont hlt hib)
            clear hx hib h1 hw hinv
            go_wp2_with fail
            go_roundg (s.size - (pos + 1))
            case measure => omega
            case rel => exact ⟨pos + 1, k, vl, l, false, hlt, rfl, rfl, HC1.out, Lib.hid ⟨fun _ => .inr ⟨k, rfl, HW.out⟩, fun h => by cases h⟩⟩
          · -- the word so far, if there is one
            have hfl := flush_any g s vl l (pos + wd) pos word w wc HC1.out hinv.out hp hs (fun k hk => .inr ⟨hlt, _, rfl, by
              have := HX.out
              rw [hk] at this
              rw [← HR.out.ins]
              cases hb : insI r
              · rfl
              · rw [hb] at this; simp at this <;> omega⟩)
            have HFL := Lib.hid hfl
            clear hfl hinv HC1 c0 c1 c2 f1 f2 HX
            go_wp2_with fail
            refine HFL.out.mono ?_
            rintro e W2 ⟨rfl, v2, l2, hC2, ht, hl2⟩
            have HC2 := Lib.hid hC2
            have HT := Lib.hid ht
            clear hC2 ht HFL
            go_upto_region 13 with fail
            go_cut [59] from 60 to 73 (fun v wx => v = .bool (blankI r) ∧ wx = W2)
            case first =>
              by_cases a1 : r = 32
              · subst a1
                go_wp2_with fail
                go_meet
                case rel => exact ⟨rfl, rfl⟩
              by_cases a2 : r = 9
              · subst a2
                go_wp2_with fail
                go_meet
                case rel => exact ⟨rfl, rfl⟩
              by_cases a3 : r = 10
              · subst a3
                go_wp2_with fail
                go_meet
                case rel => exact ⟨rfl, rfl⟩
              by_cases a4 : r = 13
              · subst a4
                go_wp2_with fail
                go_meet
                case rel => exact ⟨rfl, rfl⟩
              have b1 : ((r : Int) == 32) = false := by simp; omega
              have b2 : ((r : Int) == 9) = false := by simp; omega
              have b3 : ((r : Int) == 10) = false := by simp; omega
              have b4 : ((r : Int) == 13) = false := by simp; omega
              have LB : Hid (blankI r = false) := Lib.hid (by unfold blankI; rw [b1, b2, b3, b4]; rfl)
              clear a1 a2 a3 a4
              go_wp2_with fail
              go_meet
              case rel => exact ⟨by rw [LB.out], rfl⟩
            case rest =>
              obtain ⟨rfl, hwx⟩ := hcut
              subst hwx
              obtain ⟨bb, hbb⟩ : ∃ bb, blankI r = bb := ⟨_, rfl⟩
              have HBB := Lib.hid hbb
              rw [hbb]
              clear hbb
              rcases bb with _ | _
              rotate_left
              · -- a blank
                have hbl : blankB (s[pos]'hlt) = true := by rw [← HR.out.blank]; exact HBB.out
                have h1 := HR.out.low (blank_low hbl)
                obtain rfl : wd = 1 := h1.2
                have HT2 := Lib.hid (inv_blank HT.out hlt hbl)
                clear hbl h1 HT
                go_wp2_with fail
                go_roundg (s.size - (pos + 1))
                case measure => omega
                case rel => exact ⟨pos + 1, -1, v2, l2, false, hlt, rfl, rfl, HC2.out, Lib.hid ⟨fun _ => .inl ⟨rfl, HT2.out, by omega⟩, fun h => by cases h⟩⟩
              obtain ⟨lb, hlb⟩ : ∃ lb, ltI r = lb := ⟨_, rfl⟩
              have HLB := Lib.hid hlb
              rw [hlb]
              clear hlb
              obtain ⟨⟨c0, c1, c2⟩, f1, f2⟩ := HC2.out.cells
              rcases lb with _ | _
              rotate_left
              · -- a letter
                have hlt2 : letterB (s[pos]'hlt) = true := by rw [← HR.out.let_]; exact HLB.out
                have h1 := HR.out.low (letter_low hlt2)
                obtain rfl : wd = 1 := h1.2
                have HW := Lib.hid (InvW.start HT.out hl2 hlt hlt2)
                have HC3 := Lib.hid (HC2.out.word_ pos)
                clear hlt2 h1 HT
                go_wp2_with fail
                go_roundg (s.size - (pos + 1))
                case measure => omega
                case rel => exact ⟨pos + 1, pos, v2, l2, false, hlt, rfl, rfl, HC3.out, Lib.hid ⟨fun _ => .inr ⟨pos, rfl, HW.out⟩, fun h => by cases h⟩⟩
              have hct := fun W => contains_any r W hr0
              obtain ⟨pb, hpb⟩ : ∃ pb, punctI r = pb := ⟨_, rfl⟩
              have HPB := Lib.hid hpb
              rw [hpb] at hct
              have HCT := Lib.hid hct
              clear hpb hct
              go_wp2_with fail
              refine (HCT.out _).mono ?_
              rintro e W3 ⟨rfl, hb3⟩
              have HC3 := Lib.hid (HC2.out.below hb3)
              clear HC2 hb3 c0 c1 c2 f1 f2 HCT
              obtain ⟨⟨c0, c1, c2⟩, f1, f2⟩ := HC3.out.cells
              rcases pb with _ | _
              rotate_left
              · -- a token of one byte
                have hpu : punctB (s[pos]'hlt) = true := by
                  have h2 := HPB.out
                  rcases Nat.lt_or_ge (s[pos]'hlt).toNat 128 with ha | ha
                  · have h3 := (HR.out.low ha).1
                    rw [h3] at h2
                    unfold punctI at h2
                    unfold punctB
                    simp only [Bool.or_eq_true, beq_iff_eq] at h2 ⊢
                    have e : ∀ n : Nat, n < 256 → ((s[pos]'hlt).toNat : Int) = n → s[pos]'hlt = UInt8.ofNat n := fun n hn e => by apply UInt8.toNat_inj.1; simp; omega
                    rcases h2 with ((((h2 | h2) | h2) | h2) | h2) | h2
                    · exact .inl (.inl (.inl (.inl (.inl (e 63 (by omega) h2)))))
                    · exact .inl (.inl (.inl (.inl (.inr (e 40 (by omega) h2)))))
                    · exact .inl (.inl (.inl (.inr (e 41 (by omega) h2))))
                    · exact .inl (.inl (.inr (e 44 (by omega) h2)))
                    · exact .inl (.inr (e 91 (by omega) h2))
                    · exact .inr (e 93 (by omega) h2)
                  · have h3 := (HR.out.high ha).1
                    unfold punctI at h2
                    simp at h2
                    omega
                have h1 := HR.out.low (punct_low hpu)
                obtain rfl : wd = 1 := h1.2
                have HT2 := Lib.hid (inv_punct HT.out hlt hpu)
                have hex : s.extract pos (pos + 1) = bs [s[pos]'hlt] := by rw [extract_bs, drop_byte s pos hlt]; simp
                have HEX := Lib.hid hex
                have hz := HC3.out.size
                clear hpu h1 HT hex
                go_upto_region 17 with fail
                have hown := HC3.out.own
                have s0 : (W3.drew.alloc (.cells #[.string (s.extract pos (pos + 1)), .int .i64 pos, .bool false] 132)).ownsRow (g + 4) 132 3 v2 l2.length (tcells l2) := World.ownsRow.alloc (w := W3.drew) hown _
                have s1 : ∀ u ∈ [Value.string (s.extract pos (pos + 1)), .int .i64 pos, .bool false], u.oneCell' = true := by intro u hu; simp at hu; rcases hu with rfl | rfl | rfl <;> rfl
                have s2 : l2.length + 1 ≤ maxLen := by unfold maxLen; omega
                have s3 : (l2.length + 1) * 32 ≤ 140737488355328 := by omega
                have s4 : g + 4 ≤ (W3.drew.alloc (.cells #[.string (s.extract pos (pos + 1)), .int .i64 pos, .bool false] 132)).heap.size := by show g + 4 ≤ (W3.alloc _).heap.size; simp; omega
                have s5 := Sl.three W3.drew (.string (s.extract pos (pos + 1))) (.int .i64 pos) (.bool false) 132
                have p1 : IntKind.i64.wrap ((pos : Int) + 1) = (pos : Int) + 1 := IntWalk.i64_in _ (by omega)
                have p2 : 0 ≤ (pos : Int) + 1 := by omega
                have p3 : ((pos : Int) + 1).toNat = pos + 1 := by omega
                have p4 : (pos : Int) + 1 ≤ (s.size : Int) := by omega
                have p5 : (pos : Int) ≤ (pos : Int) + 1 := by omega
                have a1 : (W3.alloc (.cells #[.string (s.extract pos (pos + 1)), .int .i64 pos, .bool false] 132)).cell? ⟨g + 1, 0, none⟩ = some v2 := (World.cell?_alloc_lt W3 _ ⟨g + 1, 0, none⟩ (by show g + 1 < _; omega)).trans c1
                clear hown
                go_region_law (refine step_append_sl rfl (.tmp 80) (.tmp 88) 127 rfl (g + 4) 132 i0 _ 3 32 Tryz.underlying127 hi0 hz0 hz1 hz2 rfl (by omega) v2 _ _ (by simp [Act.eval, Act.put]) s0 _ _ 1 1 _ (by simp [Act.eval, Act.put]) s5 s1 s2 s3 s4 ?_; intro v' w4 ho4 hg4 ha4; obtain ⟨A4, c4, rfl, _, _⟩ := own_shape ho4; have kb := CutSt.boxed HC3.out.draw _ hg4; have k1 := kb.1.1; have k2 := kb.1.2)
                all_goals
                  have hm := CutSt.more HC3.out.draw ⟨[s[pos]'hlt], pos, false⟩ _ (by have := ho4; rw [HEX.out] at this; exact this) hg4
                  have HM := Lib.hid hm
                  clear hm ho4 hg4 ha4 kb k1 k2 a1 s0 s1 s2 s3 s4 s5 c0 c1 c2 f1 f2 p1 p2 p3 p4 p5
                  go_wp2_with fail
                  go_roundg (s.size - (pos + 1))
                  case measure => omega
                  case rel => exact ⟨pos + 1, -1, _, _, false, hlt, rfl, rfl, HM.out, Lib.hid ⟨fun _ => .inl ⟨rfl, HT2.out, by rw [List.length_append, List.length_singleton]; omega⟩, fun h => by cases h⟩⟩
              · have hpu : punctB (s[pos]'hlt) = false := by
                  cases hb : punctB (s[pos]'hlt)
                  · rfl
                  · have h3 := (HR.out.low (punct_low hb)).1
                    have h2 := HPB.out
                    rw [h3] at h2
                    rcases punct_cases hb with h4 | h4 | h4 | h4 | h4 | h4 <;> (rw [h4] at h2; exact absurd h2 (by decide))
                have hbl : blankB (s[pos]'hlt) = false := by rw [← HR.out.blank]; exact HBB.out
                have hle : letterB (s[pos]'hlt) = false := by rw [← HR.out.let_]; exact HLB.out
                by_cases harr : s[pos]'hlt = 45 ∧ ∃ h : pos + 1 < s.size, s[pos + 1] = 62
                · -- an arrow
                  obtain ⟨h45, hl1, h62⟩ := harr
                  have h1 := HR.out.low (by rw [h45]; decide)
                  obtain rfl : wd = 1 := h1.2
                  have hr45 : r = 45 := by rw [h1.1, h45]; rfl
                  subst hr45
                  have hpf : ∀ W, Calls Tryz.prog 58 #[.string (s.extract pos s.size), .string ⟨#[45, 62]⟩] W fun e w' => e = .returned (.bool true) ∧ W = w' := fun W => by
                    have h := Tryz.strings_HasPrefix (s.extract pos s.size) ⟨#[45, 62]⟩ W
                    have e : Lib.hasPrefix (s.extract pos s.size).data.toList [45, 62] = true := by
                      rw [extract_bs, bs_list, List.take_of_length_le (by simp), drop_byte s pos hlt, h45, drop_byte s (pos + 1) hl1, h62]; rfl
                    rw [e] at h
                    exact h.mono fun e w' ⟨a, b⟩ => ⟨a, b.symm⟩
                  have HPF := Lib.hid hpf
                  have HT2 := Lib.hid (inv_arrow HT.out hlt h45 ⟨hl1, h62⟩)
                  clear hpf h1 hpu hbl hle HT h45 HR HBB HLB HPB
                  go_wp2_with fail
                  refine (HPF.out _).mono ?_
                  rintro e w' ⟨rfl, rfl⟩
                  have hown := HC3.out.own
                  go_wp2_with (at_builtin; refine wpList_append_sl _ rfl (.tmp 99) (.tmp 102) 127 rfl (g + 4) 132 i0 _ 3 32 Tryz.underlying127 hi0 hz0 hz1 hz2 rfl (by omega) v2 _ _ rfl (hown.alloc _) (W3.heap.size + 1) _ 1 1 [.string ⟨#[45, 62]⟩, .int .i64 pos, .bool false] rfl (Sl.three _ _ _ _ _) ?_ ?_ ?_ ?_ ?_)
                  · intro u hu; simp at hu; rcases hu with rfl | rfl | rfl <;> rfl
                  · unfold maxLen; omega
                  · omega
                  · have := HC3.out.size; simp; omega
                  intro v' w4 ho4 hg4 ha4
                  obtain ⟨A4, c4, rfl, _, _⟩ := own_shape ho4
                  have kb := CutSt.boxed HC3.out _ hg4
                  have k1 := kb.1.1
                  have k2 := kb.1.2
                  have hm := CutSt.more HC3.out ⟨[45, 62], pos, false⟩ _ ho4 hg4
                  have HM := Lib.hid hm
                  clear hm ho4 hg4 ha4 kb hown c0 c1 c2 f1 f2
                  go_wp2_with fail
                  go_roundg (s.size - (pos + 1))
                  case measure => omega
                  case rel => exact ⟨pos + 1, -1, _, _, true, hlt, rfl, rfl, HM.out, Lib.hid ⟨fun h => (by cases h), fun _ => ⟨rfl, ⟨hl1, h62⟩, HT2.out, by rw [List.length_append, List.length_singleton]; omega⟩⟩⟩
                · have HF := Lib.hid (inv_fault HT.out hlt hbl hpu hle harr)
                  have hpf : r = 45 → ∀ W, Calls Tryz.prog 58 #[.string (s.extract pos s.size), .string ⟨#[45, 62]⟩] W fun e w' => e = .returned (.bool false) ∧ W = w' := fun hr45 W => by
                    have h := Tryz.strings_HasPrefix (s.extract pos s.size) ⟨#[45, 62]⟩ W
                    have e : Lib.hasPrefix (s.extract pos s.size).data.toList [45, 62] = false := by
                      rw [extract_bs, bs_list, List.take_of_length_le (by simp), drop_byte s pos hlt]
                      cases hb : Lib.hasPrefix (s[pos] :: s.data.toList.drop (pos + 1)) [45, 62]
                      · rfl
                      · exfalso
                        apply harr
                        rcases Nat.lt_or_ge (pos + 1) s.size with h5 | h5
                        · rw [drop_byte s (pos + 1) h5] at hb
                          simp [Lib.hasPrefix] at hb
                          exact ⟨hb.1.symm, h5, hb.2.symm⟩
                        · rw [drop_end s (pos + 1) h5] at hb
                          simp [Lib.hasPrefix] at hb
                    rw [e] at h
                    exact h.mono fun e w' ⟨a, b⟩ => ⟨a, b.symm⟩
                  by_cases hr45 : r = 45
                  · have HPF := Lib.hid (hpf hr45)
                    subst hr45
                    clear hpf harr hpu hbl hle HT HR HBB HLB HPB
                    go_wp2_with fail
                    refine (HPF.out _).mono ?_
                    rintro e w' ⟨rfl, rfl⟩
                    have hown := HC3.out.own
                    go_wp2_with (at_builtin; refine wpList_append_sl _ rfl (.tmp 54) (.tmp 57) 127 rfl (g + 4) 132 i0 _ 3 32 Tryz.underlying127 hi0 hz0 hz1 hz2 rfl (by omega) v2 _ _ rfl (hown.alloc _) (W3.heap.size + 1) _ 1 1 [.string ⟨#[]⟩, .int .i64 pos, .bool true] rfl (Sl.three _ _ _ _ _) ?_ ?_ ?_ ?_ ?_)
                    · intro u hu; simp at hu; rcases hu with rfl | rfl | rfl <;> rfl
                    · unfold maxLen; omega
                    · omega
                    · have := HC3.out.size; simp; omega
                    intro v' w4 ho4 hg4 ha4
                    have hb4 : Below w.heap.size w w4 := by
                      rw [hg]
                      exact ((HC3.out.b.alloc (by have := HC3.out.size; omega) _).grown hg4 (by have := HC3.out.size; simp; omega) (fun q hq => by have := (hown.lt q hq).1; omega))
                    obtain ⟨A4, c4, rfl, hc4, _, hsl⟩ := Sl.of_own ho4
                    have HSL := Lib.hid hsl
                    have HB4 := Lib.hid hb4
                    clear ho4 hg4 ha4 hown hsl hb4 c0 c1 c2 f1 f2
                    go_wp2_with fail
                    go_ret
                    have hfin : tk s 0 = l2 ++ [⟨[], pos, true⟩] := HF.out
                    have hlen : (tk s 0).length = l2.length + 1 := by rw [hfin]; simp
                    refine ⟨A4, c4, ?_, by rw [hlen]; exact hc4, ?_, HB4.out⟩
                    · rw [hlen]; rfl
                    · rw [hlen, hfin, tcells_snoc]; exact HSL.out
                  · have hr45' : ((r : Int) == 45) = false := by simp; omega
                    clear hpf harr hpu hbl hle HT HR HBB HLB HPB hr45
                    have hown := HC3.out.own
                    go_wp2_with (at_builtin; refine wpList_append_sl _ rfl (.tmp 54) (.tmp 57) 127 rfl (g + 4) 132 i0 _ 3 32 Tryz.underlying127 hi0 hz0 hz1 hz2 rfl (by omega) v2 _ _ rfl (hown.alloc _) (W3.heap.size + 1) _ 1 1 [.string ⟨#[]⟩, .int .i64 pos, .bool true] rfl (Sl.three _ _ _ _ _) ?_ ?_ ?_ ?_ ?_)
                    · intro u hu; simp at hu; rcases hu with rfl | rfl | rfl <;> rfl
                    · unfold maxLen; omega
                    · omega
                    · have := HC3.out.size; simp; omega
                    intro v' w4 ho4 hg4 ha4
                    have hb4 : Below w.heap.size w w4 := by
                      rw [hg]
                      exact ((HC3.out.b.alloc (by have := HC3.out.size; omega) _).grown hg4 (by have := HC3.out.size; simp; omega) (fun q hq => by have := (hown.lt q hq).1; omega))
                    obtain ⟨A4, c4, rfl, hc4, _, hsl⟩ := Sl.of_own ho4
                    have HSL := Lib.hid hsl
                    have HB4 := Lib.hid hb4
                    clear ho4 hg4 ha4 hown hsl hb4 c0 c1 c2 f1 f2
                    go_wp2_with fail
                    go_ret
                    have hfin : tk s 0 = l2 ++ [⟨[], pos, true⟩] := HF.out
                    have hlen : (tk s 0).length = l2.length + 1 := by rw [hfin]; simp
                    refine ⟨A4, c4, ?_, by rw [hlen]; exact hc4, ?_, HB4.out⟩
                    · rw [hlen]; rfl
                    · rw [hlen, hfin, tcells_snoc]; exact HSL.out
    · -- the end
      obtain rfl : pos = s.size := by omega
      have hnx : ∀ ty, (Instr.next (.pointer (some ⟨g + 3, 0, none⟩)) true ty).run Tryz.prog wr = _ := fun ty => Lib.run_next_end_at wr (g + 3) s s.size ty hC.it hlt
      have hb : b = false := by
        cases b
        · rfl
        · obtain ⟨_, ⟨h, _⟩, _⟩ := HI.out.2 rfl; omega
      subst hb
      have hfl := flush_any g s vl l s.size s.size word w wr hC (HI.out.1 rfl) (Nat.le_refl _) hs (fun _ _ => .inl rfl)
      have HFL := Lib.hid hfl
      obtain ⟨⟨c0, c1, c2⟩, f1, f2⟩ := hC.cells
      clear hfl hC HI
      go_wp2_with fail
      refine HFL.out.mono ?_
      rintro e W2 ⟨rfl, v2, l2, hC2, ht, hl2⟩
      have HC2 := Lib.hid hC2
      have HT := Lib.hid (inv_end ht)
      clear hC2 ht HFL c0 c1 c2 f1 f2
      obtain ⟨⟨c0, c1, c2⟩, f1, f2⟩ := HC2.out.cells
      have hown := HC2.out.own
      go_wp2_with (at_builtin; refine wpList_append_sl _ rfl (.tmp 108) (.tmp 112) 127 rfl (g + 4) 132 i0 _ 3 32 Tryz.underlying127 hi0 hz0 hz1 hz2 rfl (by omega) v2 _ _ rfl (hown.alloc _) (W2.heap.size + 1) _ 1 1 [.string ⟨#[]⟩, .int .i64 s.size, .bool false] rfl (Sl.three _ _ _ _ _) ?_ ?_ ?_ ?_ ?_)
      · intro u hu; simp at hu; rcases hu with rfl | rfl | rfl <;> rfl
      · unfold maxLen; omega
      · omega
      · have := HC2.out.size; simp; omega
      intro v' w4 ho4 hg4 ha4
      have hb4 : Below w.heap.size w w4 := by
        rw [hg]
        exact ((HC2.out.b.alloc (by have := HC2.out.size; omega) _).grown hg4 (by have := HC2.out.size; simp; omega) (fun q hq => by have := (hown.lt q hq).1; omega))
      obtain ⟨A4, c4, rfl, hc4, _, hsl⟩ := Sl.of_own ho4
      have HSL := Lib.hid hsl
      have HB4 := Lib.hid hb4
      clear ho4 hg4 ha4 hown hsl hb4 c0 c1 c2 f1 f2
      go_wp2_with fail
      go_ret
      have hfin : tk s 0 = l2 ++ [⟨[], s.size, false⟩] := HT.out
      have hlen : (tk s 0).length = l2.length + 1 := by rw [hfin]; simp
      refine ⟨A4, c4, ?_, by rw [hlen]; exact hc4, ?_, HB4.out⟩
      · rw [hlen]; rfl
      · rw [hlen, hfin, tcells_snoc]; exact HSL.out
end Go.Proofs.YthonnpjlkcjoeaaGreatDoor.T
