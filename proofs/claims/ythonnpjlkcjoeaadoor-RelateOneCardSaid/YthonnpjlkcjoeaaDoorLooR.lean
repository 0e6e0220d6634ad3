/- Contracts: Looser and Match, by the answer. -/
import Derived.Test.YthonnpjlkcjoeaaDoorLooP
import Derived.Test.YthonnpjlkcjoeaaDoorRelP
namespace Go.Proofs.YthonnpjlkcjoeaaDoor.T
open Go.RowKit Go.Proofs.YthonnpjlkcjoeaaDoor.B
set_option linter.unusedSimpArgs false
set_option linter.unusedVariables false

theorem endR_any (s : ByteArray) (p : Nat) (w : World) (hs : s.size ≤ 4611686018427387904) (hok : (skipN (s.data.toList.drop p) 1).2 = true) :
    Calls Tryd.prog 74 #[.string s, .int .i64 p] w fun e w' => e = .returned (.int .i64 (p + (skipN (s.data.toList.drop p) 1).1 : Nat)) ∧ w = w' := by
  obtain ⟨R, hR⟩ : ∃ R, skipN (s.data.toList.drop p) 1 = R := ⟨_, rfl⟩
  rw [hR] at hok ⊢
  have HR : Hid (skipN (s.data.toList.drop p) 1 = R) := hR
  clear hR
  have HO := Lib.hid hok
  clear hok
  go_enter Tryd.func74, Tryd.ntmps74
  go_wp2_with fail
  go_loop [1, 5] (fun a n => ∃ (k L : Nat), L ≤ k + 1 ∧ a = .int .i64 (p + k : Nat) ∧ n = .int .i64 L ∧ Hid (R = ((skipN (s.data.toList.drop (p + k)) L).1 + k, (skipN (s.data.toList.drop (p + k)) L).2))) (fun a _ => s.size - (intOf a).toNat)
  case atStart => exact ⟨0, 1, by omega, rfl, rfl, by rw [← HR.out]; exact rfl⟩
  case round =>
    obtain ⟨k, L, hL, rfl, rfl, hr⟩ := hrel
    by_cases h0 : 0 < L
    · have h1 : p + k < s.size := by
        rcases Nat.lt_or_ge (p + k) s.size with h | h
        · exact h
        · exfalso
          have := HO.out
          rw [hr.out, drop_end s (p + k) h] at this
          obtain ⟨L', rfl⟩ : ∃ L', L = L' + 1 := ⟨L - 1, by omega⟩
          simp [skipN] at this
      obtain ⟨c, hc⟩ : ∃ c, s[p + k] = c := ⟨_, rfl⟩
      obtain ⟨q, hq⟩ : ∃ q, arB c = q := ⟨_, rfl⟩
      have hq2 : ar c.toNat = q := hq
      have hlo := ar_lo c.toNat
      have ha := arityR_any c.toNat w
      rw [hq2] at ha hlo
      have hd := drop_byte s (p + k) h1
      rw [hc] at hd
      rw [hd] at hr
      obtain ⟨L', rfl⟩ : ∃ L', L = L' + 1 := ⟨L - 1, by omega⟩
      have hn : ¬ q < 0 := by
        intro hn
        have := HO.out
        rw [hr.out] at this
        simp [skipN, hq, hn] at this
      have HR2 : Hid (R = ((skipN (s.data.toList.drop (p + (k + 1))) (L' + q.toNat)).1 + (k + 1), (skipN (s.data.toList.drop (p + (k + 1))) (L' + q.toNat)).2)) := by
        show R = _
        rw [hr.out]; simp only [skipN, hq, if_neg hn]; rw [show p + k + 1 = p + (k + 1) by omega]
        exact Prod.ext (by simp only; omega) rfl
      have HC := Lib.hid hc
      clear hr hd hc hq hq2 HR HO
      go_wp2_with (go_at_call 72; rw [HC.out]; refine ha.mono ?_; rintro e w' ⟨rfl, rfl⟩)
      go_round
      case rel => exact ⟨k + 1, L' + q.toNat, by omega, by go_num, by go_num, HR2⟩
      case measure => simp [intOf]; omega
    · have hR : R = (k, true) := by rw [hr.out, show L = 0 by omega, skip0]; simp
      have HR3 := Lib.hid hR
      clear hr HR HO hR
      go_wp2_with fail
      go_ret
      exact ⟨by rw [HR3.out]; simp, rfl⟩

/-- How far 'bare' has been asked: up te the place k. -/
def bareTo (l : List UInt8) (i k : Nat) : Bool := (l.getD i 0 != 63) && ((l.drop (i + 1)).take (k - (i + 1))).all (· == 63)
theorem bareTo_start (l : List UInt8) (i : Nat) : bareTo l i (i + 1) = (l.getD i 0 != 63) := by simp [bareTo]
theorem bareTo_step {l : List UInt8} {i k : Nat} (h : i + 1 ≤ k) (hk : k < l.length) : bareTo l i (k + 1) = (bareTo l i k && (l.getD k 0 == 63)) := by
  unfold bareTo
  rw [show k + 1 - (i + 1) = (k - (i + 1)) + 1 by omega, List.take_add_one, List.all_append, Bool.and_assoc]
  congr 2
  rw [List.getElem?_drop, show i + 1 + (k - (i + 1)) = k by omega, List.getD_eq_getElem?_getD, List.getElem?_eq_getElem hk]
  simp
theorem bareTo_end (l : List UInt8) (i : Nat) : bareTo l i (toAt l i) = bareAt l i := rfl
theorem getD_byte (s : ByteArray) (k : Nat) (h : k < s.size) : s.data.toList.getD k 0 = s[k] := by
  have h2 : k < s.data.size := h
  rw [List.getD_eq_getElem?_getD, Array.getElem?_toList, Array.getElem?_eq_getElem h2]; rfl

theorem looL_le (l : List UInt8) (n : Nat) : (looL l n).length ≤ n := by
  induction n with
  | zero => simp [looL]
  | succ n ih =>
    rw [looL_succ, List.length_append]
    have : (stepAt l n).length ≤ 1 := by unfold stepAt; split <;> simp
    omega
theorem cut_eq (s : ByteArray) (i te : Nat) (hto : te ≤ s.size) : s.extract 0 i ++ ⟨#[63]⟩ ++ s.extract te s.size = bs (s.data.toList.take i ++ 63 :: s.data.toList.drop te) := by
  have e : (⟨#[63]⟩ : ByteArray) = bs [63] := rfl
  have h : (s.data.toList.drop te).length ≤ s.size - te := by simp
  rw [extract_bs, extract_bs, e, bs_append, bs_append, List.drop_zero, Nat.sub_zero, List.take_of_length_le h, List.append_assoc]
  rfl

def LoosR (T : Ty) (w : World) (e : Ending) (w' : World) : Prop := ∃ v, e = .returned v ∧ w'.ownsRow w.heap.size 9 1 v (looserT T).length ((looserT T).map strV) ∧ Below w.heap.size w w'

theorem LooserR_no (s : ByteArray) (w : World) (hs : s.size ≤ 4611686018427387904) (hb : isB s = false) :
    Calls Tryd.prog 33 #[.string s] w fun e w' => e = .returned (.slice none 0 0) ∧ w = w' := by
  have hi := fun W => isR_any s W hs
  rw [hb] at hi
  go_enter Tryd.func33, Tryd.ntmps33
  go_wp2_with fail
  refine (hi _).mono ?_
  rintro e w' ⟨rfl, rfl⟩
  go_wp2_with fail
  go_ret
  exact ⟨rfl, rfl⟩

set_option maxRecDepth 100000 in
set_option maxHeartbeats 1000000 in
theorem LooserR_yes (T : Ty) (w : World) (hT : T.ok) (hT64 : T.code.length ≤ 64) :
    Calls Tryd.prog 33 #[.string (str T)] w fun e w' => LoosR T w e w' := by
  have hi := fun W => isR_any (str T) W (by simp only [str, bs_size]; omega)
  rw [isB_str hT hT64] at hi
  obtain ⟨i0, hi0, hz0, hz1, hz2⟩ := info_parts info9
  have hfin : (looserT T).map strV = (looL T.code T.code.length).map bsV := by rw [looL_code hT, List.map_map]; rfl
  have hfinl : (looserT T).length = (looL T.code T.code.length).length := by rw [looL_code hT]; simp
  unfold LoosR
  rw [hfin, hfinl]
  have hds : ∀ i, i < T.code.length → _ := fun i hi => drop_skip hT hi
  have hsl : (str T).data.toList = T.code := by rw [str, bs_list]
  have hsz : (str T).size = T.code.length := by rw [str, bs_size]
  generalize T.code = l at *
  generalize str T = s at *
  have HDS := Lib.hid hds
  have HSL := Lib.hid hsl
  have HSZ := Lib.hid hsz
  have hs64 : s.size ≤ 64 := by omega
  have HE := Lib.hid fun (i : Nat) (W : World) (h : i < l.length) => endR_any s i W (by omega) (by rw [hsl]; exact (hds i h).1)
  clear hds hsl hfin hfinl hT
  go_enter Tryd.func33, Tryd.ntmps33
  go_wp2_with fail
  refine (hi _).mono ?_
  rintro e w' ⟨rfl, rfl⟩
  go_wp2_with fail
  go_loopg [3, 4] l.length (fun g v i wr => ∃ j : Nat, j ≤ l.length ∧ g = l.length - j ∧ i = .int .i64 j ∧ wr.ownsRow w.heap.size 9 1 v (looL l j).length ((looL l j).map bsV) ∧ Below w.heap.size w wr)
  case atStart => exact ⟨0, by omega, rfl, rfl, World.ownsRow_nil _ _ _ _, Below.refl _ _⟩
  case round =>
    obtain ⟨j, hj, rfl, rfl, hl, hb⟩ := hrel
    obtain ⟨A, c, rfl, hn1, hn2⟩ := own_shape hl
    by_cases hlt : j < l.length
    · have hend := fun W => HE.out j W hlt
      rw [show (j + (skipN (List.drop j s.data.toList) 1).1 : Nat) = toAt l j by rw [HSL.out]; rfl] at hend
      obtain ⟨_, ht1, ht2⟩ := HDS.out j hlt
      have hbe := bareTo_end l j
      obtain ⟨te, hto⟩ : ∃ n, toAt l j = n := ⟨_, rfl⟩
      rw [hto] at hend ht1 ht2 hbe
      have hjs : j < s.size := by omega
      have hg := getD_byte s j hjs
      rw [HSL.out] at hg
      have hne : ((s[j].toNat : Int) != 63) = bareTo l j (j + 1) := by
        rw [bareTo_start, hg, bne, bne, q63, byte_eq]
      have HG := Lib.hid hne
      have HL := Lib.hid hl
      have HBE := Lib.hid hbe
      have HTO := Lib.hid hto
      have hll := looL_le l j
      have HT1 := Lib.hid (And.intro ht1 ht2)
      clear hg hne hl hbe hto
      go_wp2_with fail
      refine (hend _).mono ?_
      rintro e w' ⟨rfl, rfl⟩
      go_wp2_with fail
      rw [HG.out]
      go_loopg [6, 7] (te - (j + 1)) (fun g b i W => ∃ k : Nat, j + 1 ≤ k ∧ k ≤ te ∧ g = te - k ∧ b = .bool (bareTo l j k) ∧ i = .int .i64 k ∧ wr = W)
      case atStart => exact ⟨j + 1, by omega, by have := HT1.out; omega, by omega, rfl, by go_num, rfl⟩
      case round =>
        obtain ⟨k, hk0, hk, rfl, rfl, rfl, rfl⟩ := hrel
        by_cases hkt : k < te
        · have hks : k < s.size := by omega
          have hst := bareTo_step hk0 (show k < l.length by omega)
          have hg := getD_byte s k hks
          rw [HSL.out] at hg
          rw [hg, ← byte_eq, ← q63] at hst
          obtain ⟨bb, hbb⟩ : ∃ b, bareTo l j k = b := ⟨_, rfl⟩
          rw [hbb] at hst ⊢
          have HST := Lib.hid hst
          clear hst hbb hg
          cases bb
          · go_wp2_with fail
            go_roundg (te - (k + 1))
            case measure => omega
            case rel => exact ⟨k + 1, by omega, by omega, rfl, by rw [HST.out]; rfl, by go_num, rfl⟩
          · go_wp2_with fail
            go_roundg (te - (k + 1))
            case measure => omega
            case rel => exact ⟨k + 1, by omega, by omega, rfl, by rw [HST.out, Bool.true_and], by go_num, rfl⟩
        · obtain rfl : k = te := by omega
          have hn := HBE.out
          have hs := looL_succ l j
          unfold stepAt at hs
          rw [HTO.out] at hs
          rw [← hn] at hs
          obtain ⟨bb, hbb⟩ : ∃ b, bareTo l j k = b := ⟨_, rfl⟩
          rw [hbb] at hs ⊢
          have HS := Lib.hid hs
          clear hbb hs hn
          cases bb
          · have hs2 := HS.out
            simp only [Bool.false_eq_true, if_false, List.append_nil] at hs2
            have HS2 := Lib.hid hs2
            clear hs2
            go_wp2_with fail
            go_roundg (l.length - (j + 1))
            case measure => omega
            case rel => exact ⟨j + 1, by omega, rfl, by go_num, by rw [HS2.out]; exact HL.out, hb⟩
          · have hs2 := HS.out
            simp only [if_true] at hs2
            have hcat := cut_eq s j k (by omega)
            rw [HSL.out, HSZ.out] at hcat
            obtain ⟨nw, hnw⟩ : ∃ x, l.take j ++ 63 :: l.drop k = x := ⟨_, rfl⟩
            rw [hnw] at hs2 hcat
            have hzz1 : (s.extract 0 j).size ≤ 64 := by rw [ByteArray.size_extract]; omega
            have hzz2 : (s.extract k l.length).size ≤ 64 := by rw [ByteArray.size_extract]; omega
            have HS2 := Lib.hid hs2
            have HCAT := Lib.hid hcat
            clear hs2 hcat hnw
            go_wp2_with fail
            have f1 : j ≤ s.size := by omega
            have f2 : ¬ 9223372036854775807 < j + 1 := by omega
            have f3 : ¬ 9223372036854775807 < j + 1 + (l.length - k) := by omega
            have f4 : (k : Int) ≤ (l.length : Int) := by omega
            obtain ⟨v0, hv0⟩ : ∃ v, Value.slice A (looL l j).length c = v := ⟨_, rfl⟩
            have hl1 := HL.out
            rw [hv0] at hl1
            have hl0 : (wr.drew.alloc (.cells #[.string (s.extract 0 j ++ ⟨#[63]⟩ ++ s.extract k l.length)] 9)).ownsRow w.heap.size 9 1 v0 (looL l j).length ((looL l j).map bsV) := World.ownsRow.alloc (w := wr.drew) hl1 _
            have s1 : ∀ u ∈ [Value.string (s.extract 0 j ++ ⟨#[63]⟩ ++ s.extract k l.length)], u.oneCell' = true := by intro u hu; simp at hu; subst hu; rfl
            have s2 : (looL l j).length + 1 ≤ maxLen := by unfold maxLen; omega
            have s3 : ((looL l j).length + 1) * 16 ≤ 140737488355328 := by omega
            have s4 : w.heap.size ≤ (wr.drew.alloc (.cells #[.string (s.extract 0 j ++ ⟨#[63]⟩ ++ s.extract k l.length)] 9)).heap.size := by have := hb.size; show w.heap.size ≤ (wr.alloc _).heap.size; simp; omega
            have s5 := Sl.one wr.drew (.string (s.extract 0 j ++ ⟨#[63]⟩ ++ s.extract k l.length)) 9
            rw [hv0]
            go_region_law (refine step_append_sl rfl (.tmp 39) (.tmp 48) 67 rfl w.heap.size 9 i0 _ 1 16 Tryd.underlying67 hi0 hz0 hz1 hz2 rfl (by omega) v0 _ _ (by simp [Act.eval, Act.put]) hl0 _ _ 1 1 _ (by simp [Act.eval, Act.put]) s5 s1 s2 s3 s4 ?_; intro v' w4 ho4 hg4 ha4)
            rw [HCAT.out] at ho4
            have hb4 : Below w.heap.size w w4 := ((hb.drew).alloc hb.size _).grown hg4 s4 (fun g hg => (hl1.lt g hg).1)
            go_wp2_with fail
            go_roundg (l.length - (j + 1))
            case measure => omega
            case rel => exact ⟨j + 1, by omega, rfl, by go_num, by rw [HS2.out]; simpa [bsV] using ho4, hb4⟩
    · obtain rfl : j = l.length := by omega
      go_wp2_with fail
      go_ret
      exact ⟨_, rfl, hl, hb⟩

/-! ### Match -/
theorem MatchR_no (s : ByteArray) (h : UInt8) (w : World) (hs : s.size ≤ 4611686018427387904) (hb : isB s = false) :
    Calls Tryd.prog 31 #[.string s, .int .u8 h.toNat] w fun e w' => e = .returned (.tuple #[.slice none 0 0, .bool false]) ∧ w = w' := by
  have hi := fun W => isR_any s W hs
  rw [hb] at hi
  go_enter Tryd.func31, Tryd.ntmps31
  go_wp2_with fail
  refine (hi _).mono ?_
  rintro e w' ⟨rfl, rfl⟩
  go_wp2_with fail
  go_ret2
  exact ⟨rfl, rfl⟩

set_option maxRecDepth 100000 in
theorem MatchR_yes (T : Ty) (h : UInt8) (w : World) (hT : T.ok) (hT64 : T.code.length ≤ 64) :
    Calls Tryd.prog 31 #[.string (str T), .int .u8 h.toNat] w fun e w' => MatchR T h w e w' := by
  have hi := fun W => isR_any (str T) W (by simp only [str, bs_size]; omega)
  rw [isB_str hT hT64] at hi
  have hp := fun W => PartsRef_yes T W hT hT64
  unfold PartsR at hp
  obtain ⟨p1, e1⟩ := str_head T
  obtain ⟨i0, hi0, hz0, hz1, hz2⟩ := info_parts info9
  unfold MatchR OwnTs
  by_cases ha : T.head = h
  · have hb : ((T.head.toNat : Int) == (h.toNat : Int)) = true := by rw [byte_eq]; simpa using ha
    have r1 : matchB T h = true := by unfold matchB; simp [ha]
    have r2 : matchL T h = T.kids := by unfold matchL; rw [if_pos ha]
    rw [r1, r2]
    generalize T.kids = K at *
    generalize T.head = a at *
    generalize str T = s at *
    clear ha hT r1 r2 hT64
    go_enter Tryd.func31, Tryd.ntmps31
    go_wp2_with fail
    refine (hi _).mono ?_
    rintro e w' ⟨rfl, rfl⟩
    go_wp2_with fail
    refine (hp _).mono ?_
    rintro e w1 ⟨v, rfl, ho, hb⟩
    go_wp2_with fail
    go_ret2
    exact ⟨v, rfl, ho, hb⟩
  · have hb : ((T.head.toNat : Int) == (h.toNat : Int)) = false := by rw [byte_eq]; simpa using ha
    have har := fun W => arityR_any (h.toNat : Int) W
    by_cases hq : T.head = 63
    · have hb3 : ((T.head.toNat : Int) != 63) = false := by rw [q63, bne, byte_eq, hq]; rfl
      have r1 : matchB T h = decide (1 ≤ arB h) := by unfold matchB; rw [hq] at ha ⊢; simp [ha]
      have r2 : matchL T h = if 1 ≤ arB h then List.replicate (arB h).toNat dyn else [] := by unfold matchL; rw [if_neg ha]; simp [hq]
      rw [r1, r2]
      have hlo := ar_lo (h.toNat : Int)
      have hare : ar (h.toNat : Int) = arB h := rfl
      rw [hare] at har hlo
      generalize arB h = q at *
      generalize T.head = a at *
      generalize str T = s at *
      generalize (h.toNat : Int) = c at *
      clear ha hT r1 r2 hT64 hp hq hare
      by_cases h1 : 1 ≤ q
      · rw [if_pos h1, decide_eq_true h1]
        obtain ⟨m, rfl⟩ : ∃ m : Nat, q = m := ⟨q.toNat, by omega⟩
        have hmap : (List.replicate (m : Int).toNat dyn).map strV = List.replicate m (strV dyn) := by simp
        rw [hmap, List.length_replicate, Int.toNat_natCast]
        clear hmap
        go_enter Tryd.func31, Tryd.ntmps31
        go_wp2_with fail
        refine (hi _).mono ?_
        rintro e w' ⟨rfl, rfl⟩
        go_wp2_with fail
        refine (har _).mono ?_
        rintro e w' ⟨rfl, rfl⟩
        go_wp2_with fail
        go_loopg [6, 7] m (fun g v i wr => ∃ j : Nat, j ≤ m ∧ g = m - j ∧ i = .int .i64 j ∧ wr.ownsRow w.heap.size 9 1 v j (List.replicate j (strV dyn)) ∧ Below w.heap.size w wr)
        case atStart => exact ⟨0, by omega, rfl, rfl, World.ownsRow_nil _ _ _ _, Below.refl _ _⟩
        case round =>
          obtain ⟨j, hj, rfl, rfl, hl, hbr⟩ := hrel
          obtain ⟨A, cc, rfl, hn1, hn2⟩ := own_shape hl
          go_wp2_with fail
          refine (har _).mono ?_
          rintro e w' ⟨rfl, rfl⟩
          by_cases hjm : j < m
          · have s1 : ∀ u ∈ [Value.string ⟨#[63]⟩], u.oneCell' = true := by intro u hu; simp at hu; subst hu; rfl
            have s2 : j + 1 ≤ maxLen := by unfold maxLen; omega
            have s3 : (j + 1) * 16 ≤ 140737488355328 := by omega
            have s4 : w.heap.size ≤ (wr.alloc (.cells #[.string ⟨#[63]⟩] 9)).heap.size := by have := hbr.size; simp; omega
            have hl0 := World.ownsRow.alloc hl (.cells #[.string ⟨#[63]⟩] 9)
            go_wp2_with (at_builtin; refine wpList_append_sl _ rfl (.tmp 31) (.tmp 32) 67 rfl w.heap.size 9 i0 _ 1 16 Tryd.underlying67 hi0 hz0 hz1 hz2 rfl (by omega) _ j _ rfl hl0 (wr.heap.size + 1) _ 1 1 [.string ⟨#[63]⟩] rfl (Sl.one _ _ _) s1 s2 s3 s4 ?_)
            intro v1 w1 hown1 hg1 hat1
            have hb1 : Below w.heap.size w w1 := (hbr.alloc hbr.size _).grown hg1 s4 (fun g hg => (hl.lt g hg).1)
            go_wp2_with fail
            go_roundg (m - (j + 1))
            case measure => omega
            case rel => exact ⟨j + 1, by omega, rfl, by go_num, by rw [List.replicate_succ']; exact hown1, hb1⟩
          · obtain rfl : j = m := by omega
            go_wp2_with fail
            go_ret2
            exact ⟨_, rfl, hl, hbr⟩
      · rw [if_neg h1, decide_eq_false h1]
        go_enter Tryd.func31, Tryd.ntmps31
        go_wp2_with fail
        refine (hi _).mono ?_
        rintro e w' ⟨rfl, rfl⟩
        go_wp2_with fail
        refine (har _).mono ?_
        rintro e w' ⟨rfl, rfl⟩
        go_wp2_with fail
        go_ret2
        exact ⟨_, rfl, World.ownsRow_nil _ _ _ _, b0⟩
    · have hb3 : ((T.head.toNat : Int) != 63) = true := by rw [q63, bne, byte_eq]; simpa using hq
      have r1 : matchB T h = false := by unfold matchB; simp [ha, hq]
      have r2 : matchL T h = [] := by unfold matchL; rw [if_neg ha, if_neg (by intro h; exact hq h.1)]
      rw [r1, r2]
      generalize T.head = a at *
      generalize str T = s at *
      clear ha hT r1 r2 hT64 hp hq
      go_enter Tryd.func31, Tryd.ntmps31
      go_wp2_with fail
      refine (hi _).mono ?_
      rintro e w' ⟨rfl, rfl⟩
      go_wp2_with fail
      go_ret2
      exact ⟨_, rfl, World.ownsRow_nil _ _ _ _, b0⟩
end Go.Proofs.YthonnpjlkcjoeaaDoor.T
