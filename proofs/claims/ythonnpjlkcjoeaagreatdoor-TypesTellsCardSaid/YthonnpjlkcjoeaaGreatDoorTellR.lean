/- Contracts: Head, Ground, Static, Height, by the answer. -/
import Derived.Test.YthonnpjlkcjoeaaGreatDoorTellG
import Derived.Test.YthonnpjlkcjoeaaGreatDoorTypH
namespace Go.Proofs.YthonnpjlkcjoeaaGreatDoor.T
open Go.RowKit Go.Proofs.YthonnpjlkcjoeaaGreatDoor.B
set_option linter.unusedSimpArgs false
set_option linter.unusedVariables false

theorem PartsRef_no (s : ByteArray) (w : World) (hs : s.size ≤ 4611686018427387904) (h : isB s = false) :
    Calls Tryz.prog 8 #[.string s] w fun e w' => e = .returned (.slice none 0 0) ∧ w = w' := by
  have hi := isR_any s w hs
  rw [h] at hi
  go_enter Tryz.func8, Tryz.ntmps8
  go_wp2_with (go_at_call 27; refine hi.mono ?_; rintro e w' ⟨rfl, rfl⟩)
  go_ret
  exact ⟨rfl, rfl⟩

theorem HeadR_yes (t : Ty) (w : World) (ht : t.ok) (h64 : t.code.length ≤ 64) :
    Calls Tryz.prog 13 #[.string (str t)] w fun e w' => e = .returned (.int .u8 t.head.toNat) ∧ w = w' := by
  have hi := isR_any (str t) w (by simp [str]; omega)
  rw [isB_str ht h64] at hi
  obtain ⟨c, hc⟩ : ∃ c, t.head = c := ⟨_, rfl⟩
  obtain ⟨hp0, hb0⟩ := str_head t
  rw [hc] at hb0 ⊢
  generalize str t = s at *
  clear ht h64 hc
  go_enter Tryz.func13, Tryz.ntmps13
  go_wp2_with fail
  refine hi.mono ?_
  rintro e w' ⟨rfl, rfl⟩
  go_wp2_with fail
  go_ret
  exact ⟨rfl, rfl⟩
theorem HeadR_no (s : ByteArray) (w : World) (hs : s.size ≤ 4611686018427387904) (h : isB s = false) :
    Calls Tryz.prog 13 #[.string s] w fun e w' => e = .returned (.int .u8 0) ∧ w = w' := by
  have hi := isR_any s w hs
  rw [h] at hi
  clear h hs
  go_enter Tryz.func13, Tryz.ntmps13
  go_wp2_with fail
  refine hi.mono ?_
  rintro e w' ⟨rfl, rfl⟩
  go_wp2_with fail
  go_ret
  exact ⟨rfl, rfl⟩

theorem groundR_dyn (s : ByteArray) (w : World) (hs : s.size ≤ 4611686018427387904) (hb : isB s = false ∨ ∃ T : Ty, T.ok ∧ T.code.length ≤ 64 ∧ s = str T ∧ T.head = 63) :
    Calls Tryz.prog 15 #[.string s] w fun e w' => e = .returned (.string ⟨#[]⟩) ∧ w = w' := by
  have hi := fun W => isR_any s W hs
  rcases hb with hb | ⟨T, hT, h64, rfl, hq⟩
  · rw [hb] at hi
    go_enter Tryz.func15, Tryz.ntmps15
    go_wp2_with fail
    refine (hi _).mono ?_
    rintro e w' ⟨rfl, rfl⟩
    go_wp2_with fail
    go_ret
    exact ⟨rfl, rfl⟩
  · rw [isB_str hT h64] at hi
    obtain ⟨p1, e1⟩ := str_head T
    rw [hq] at e1
    have hb : (((str T)[0].toNat : Int) == 63) = true := by rw [e1]; rfl
    generalize str T = s at *
    clear hT h64 hq e1
    go_enter Tryz.func15, Tryz.ntmps15
    go_wp2_with fail
    refine (hi _).mono ?_
    rintro e w' ⟨rfl, rfl⟩
    go_wp2_with fail
    go_ret
    exact ⟨rfl, rfl⟩

set_option maxRecDepth 100000 in
theorem groundR_any (T : Ty) (w : World) (hT : T.ok) (hT64 : T.code.length ≤ 64) (hq : T.head ≠ 63) :
    Calls Tryz.prog 15 #[.string (str T)] w fun e w' => e = .returned (.string (bs (groundL T))) ∧ w = w' := by
  have hi := fun W => isR_any (str T) W (by simp only [str, bs_size]; omega)
  rw [isB_str hT hT64] at hi
  have hf := str_first T
  have hsz : 1 ≤ (str T).size := by simp only [str, bs_size]; exact T.code_pos
  obtain ⟨p1, e1⟩ := str_head T
  have hah := Ty.ar_head hT
  have hk := Ty.kids_le T
  have hb : ((T.head.toNat : Int) == 63) = false := by rw [q63, byte_eq]; simpa using hq
  have hg : groundL T = T.head :: List.replicate T.kids.length 63 := by unfold groundL; rw [if_neg hq, hah]; rfl
  have har := fun W => arityR_any (T.head.toNat : Int) W
  have hah' : ar (T.head.toNat : Int) = T.kids.length := hah
  rw [hah'] at har
  rw [hg]
  obtain ⟨m, hm⟩ : ∃ m, T.kids.length = m := ⟨_, rfl⟩
  obtain ⟨a, ha⟩ : ∃ a, T.head = a := ⟨_, rfl⟩
  rw [hm] at har hk ⊢
  rw [ha] at har hb hf e1 ⊢
  generalize str T = s at *
  have hadd : ∀ j, bs (a :: List.replicate j 63) ++ ⟨#[63]⟩ = bs (a :: List.replicate (j + 1) 63) := fun j => by
    have e : (⟨#[63]⟩ : ByteArray) = bs [63] := rfl
    rw [e, bs_append, List.cons_append, ← List.replicate_succ']
  have hz : ∀ j, j ≤ 2 → (bs (a :: List.replicate j 63)).size ≤ 8 := fun j hj => by rw [bs_size, List.length_cons, List.length_replicate]; omega
  have HA := Lib.hid hadd
  have HZ := Lib.hid hz
  have h0 : s.extract 0 1 = bs (a :: List.replicate 0 63) := hf
  have HF := Lib.hid h0
  clear hadd hz h0 hf hg hah hah' hq hT hT64 hm ha
  go_enter Tryz.func15, Tryz.ntmps15
  go_wp2_with fail
  refine (hi _).mono ?_
  rintro e w' ⟨rfl, rfl⟩
  go_wp2_with fail
  rw [HF.out]
  go_loopg [3, 4] m (fun g v i wr => ∃ j : Nat, j ≤ m ∧ g = m - j ∧ i = .int .i64 j ∧ v = .string (bs (a :: List.replicate j 63)) ∧ w = wr)
  case atStart => exact ⟨0, by omega, rfl, rfl, rfl, rfl⟩
  case round =>
    obtain ⟨j, hj, rfl, rfl, rfl, rfl⟩ := hrel
    have z1 := HZ.out j (by omega)
    have s1 := fun W => run_string_add_sum (P := Tryz.prog) W (bs (a :: List.replicate j 63)) ⟨#[63]⟩ (by show _ + 1 ≤ _; omega)
    rw [HA.out] at s1
    obtain ⟨x, hx⟩ : ∃ x, bs (a :: List.replicate j 63) = x := ⟨_, rfl⟩
    rw [hx] at z1 s1 ⊢
    have HX := Lib.hid hx
    clear hx
    obtain ⟨y, hy⟩ : ∃ y, bs (a :: List.replicate (j + 1) 63) = y := ⟨_, rfl⟩
    rw [hy] at s1
    have HY := Lib.hid hy
    clear hy
    go_wp2_with fail
    refine (har _).mono ?_
    rintro e w' ⟨rfl, rfl⟩
    by_cases hjm : j < m
    · go_wp2_with fail
      go_roundg (m - (j + 1))
      case measure => omega
      case rel => exact ⟨j + 1, by omega, rfl, by go_num, by rw [HY.out], rfl⟩
    · go_wp2_with fail
      go_ret
      refine ⟨retV ?_, rfl⟩
      show Value.string x = _
      rw [← HX.out, show j = m by omega]

theorem StaticR_any (s : ByteArray) (w : World) (hs : s.size ≤ 4611686018427387904) :
    Calls Tryz.prog 17 #[.string s] w fun e w' => e = .returned (.bool (isB s && !s.data.toList.contains 63)) ∧ w = w' := by
  have hi := fun W => isR_any s W hs
  obtain ⟨b, hb⟩ : ∃ b, isB s = b := ⟨_, rfl⟩
  rw [hb] at hi ⊢
  obtain ⟨B, hB⟩ : ∃ B, s.data.toList.contains 63 = B := ⟨_, rfl⟩
  have HB := Lib.hid hB
  rw [hB]
  clear hb hB
  cases b
  · go_enter Tryz.func17, Tryz.ntmps17
    go_wp2_with fail
    refine (hi _).mono ?_
    rintro e w' ⟨rfl, rfl⟩
    go_wp2_with fail
    go_ret
    exact ⟨rfl, rfl⟩
  · go_enter Tryz.func17, Tryz.ntmps17
    go_wp2_with fail
    refine (hi _).mono ?_
    rintro e w' ⟨rfl, rfl⟩
    go_wp2_with fail
    go_loopg [3] s.size (fun g i wr => ∃ j : Nat, j ≤ s.size ∧ g = s.size - j ∧ i = .int .i64 j ∧ w = wr ∧ Hid ((s.data.toList.drop j).contains 63 = B))
    case atStart => exact ⟨0, by omega, rfl, rfl, rfl, HB⟩
    case round =>
      obtain ⟨j, hj, rfl, rfl, rfl, HJ⟩ := hrel
      by_cases hlt : j < s.size
      · have hd := drop_byte s j hlt
        obtain ⟨c, hc⟩ : ∃ c, s[j] = c := ⟨_, rfl⟩
        have hq : ((c.toNat : Int) == 63) = (c == 63) := by rw [q63, byte_eq]
        rw [hc] at hd
        have hJ := HJ.out
        rw [hd, List.contains_cons] at hJ
        have HC := Lib.hid hc
        by_cases h63 : c = 63
        · have hB : B = true := by rw [← hJ, h63]; rfl
          have q2 : (((s[j] : UInt8).toNat : Int) == 63) = true := by rw [HC.out, hq, h63]; rfl
          have HBB := Lib.hid hB
          clear hd hc hq hJ hB HJ HB
          go_wp2_with fail
          go_ret
          exact ⟨by rw [HBB.out]; rfl, rfl⟩
        · have q2 : (((s[j] : UInt8).toNat : Int) == 63) = false := by rw [HC.out, hq]; simpa using h63
          have hJ2 : ((s.data.toList.drop (j + 1)).contains 63) = B := by
            rw [← hJ, show ((63 : UInt8) == c) = false by simpa using fun h => h63 h.symm, Bool.false_or]
          have HJ2 := Lib.hid hJ2
          clear hd hc hq hJ hJ2 HJ HB HC
          go_wp2_with fail
          go_roundg (s.size - (j + 1))
          case measure => omega
          case rel => exact ⟨j + 1, by omega, rfl, by go_num, rfl, HJ2⟩
      · have hJ := HJ.out
        rw [drop_end s j (by omega)] at hJ
        have HBB : Hid (B = false) := Lib.hid (by rw [← hJ]; rfl)
        clear hJ HJ HB
        go_wp2_with fail
        go_ret
        exact ⟨by rw [HBB.out]; rfl, rfl⟩

theorem HeightR_no (s : ByteArray) (w : World) (hs : s.size ≤ 4611686018427387904) (hb : isB s = false) :
    Calls Tryz.prog 19 #[.string s] w fun e w' => e = .returned (.int .i64 0) ∧ w = w' := by
  have hi := fun W => isR_any s W hs
  rw [hb] at hi
  have hp := fun W => PartsRef_no s W hs hb
  go_enter Tryz.func19, Tryz.ntmps19
  go_wp2_with fail
  refine (hp _).mono ?_
  rintro e w' ⟨rfl, rfl⟩
  go_wp2_with fail
  refine (hi _).mono ?_
  rintro e w' ⟨rfl, rfl⟩
  go_wp2_with fail
  go_ret
  exact ⟨rfl, rfl⟩

set_option maxRecDepth 100000 in
theorem HeightR_any (fuel : Nat) : ∀ (T : Ty) (w : World) (hf : T.code.length ≤ fuel) (hT : T.ok) (hT64 : T.code.length ≤ 64),
    Calls Tryz.prog 19 #[.string (str T)] w fun e w' => e = .returned (.int .i64 T.high) ∧ Below w.heap.size w w' := by
  induction fuel with
  | zero => intro T w hf; have := T.code_pos; omega
  | succ fuel ih =>
  intro T w hf hT hT64
  have IH := Lib.hid ih
  have hi := fun W => isR_any (str T) W (by simp only [str, bs_size]; omega)
  rw [isB_str hT hT64] at hi
  have hP := fun W => PartsRef_yes T W hT hT64
  unfold PartsR at hP
  have hh := high_kids T
  have hkid : ∀ k ∈ T.kids, k.ok ∧ k.code.length ≤ fuel ∧ k.code.length ≤ 64 := fun k hk => by
    have := Ty.kid_code hk
    exact ⟨Ty.kids_ok hT hk, by omega, by omega⟩
  have hm := fun j => hiN_le T.kids 64 (fun k hk => by have := high_le k; have := (hkid k hk).2.2; omega) j
  have hK2 := Ty.kids_le T
  obtain ⟨K, hK⟩ : ∃ K, T.kids = K := ⟨_, rfl⟩
  obtain ⟨s, hs⟩ : ∃ s, str T = s := ⟨_, rfl⟩
  rw [hK] at hP hh hkid hm hK2
  rw [hs] at hi hP ⊢
  rw [hh]
  have HKID := Lib.hid hkid
  have HM := Lib.hid hm
  clear ih hh hkid hm hK hs hT hT64 hf
  go_enter Tryz.func19, Tryz.ntmps19
  go_wp2_with fail
  refine (hP _).mono ?_
  rintro e w1 ⟨v, rfl, ho, hb⟩
  obtain ⟨A, c, rfl, _, _⟩ := own_shape ho
  go_wp2_with fail
  refine (hi _).mono ?_
  rintro e w' ⟨rfl, rfl⟩
  clear hi hP
  go_wp2_with fail
  go_loopg [4, 5] K.length (fun g m i wr => ∃ j : Nat, j ≤ K.length ∧ g = K.length - j ∧ m = .int .i64 (hiN K j) ∧ i = .int .i64 j ∧ wr.ownsRow w.heap.size 9 1 (.slice A K.length c) K.length (K.map strV) ∧ Below w.heap.size w wr)
  case atStart => exact ⟨0, by omega, rfl, rfl, rfl, ho, hb⟩
  case round =>
    obtain ⟨j, hj, rfl, rfl, rfl, ho, hb⟩ := hrel
    have hmj := HM.out j
    by_cases hlt : j < K.length
    · obtain ⟨k, hk⟩ : ∃ k, K[j]? = some k := ⟨_, List.getElem?_eq_getElem hlt⟩
      obtain ⟨g, rfl, hg1, hg2, hcell⟩ := own_cell ho hlt
      have hc1 := hcell (.string (str k)) (by rw [List.getElem?_map, hk]; rfl)
      obtain ⟨kok, kf, k64⟩ := HKID.out k (List.mem_of_getElem? hk)
      have hcall := fun W => IH.out k W kf kok k64
      have hnx : hiN K (j + 1) = max (hiN K j) k.high := by simp only [hiN, hk]
      have hkh : k.high ≤ 64 := by have := high_le k; omega
      obtain ⟨p, hp⟩ : ∃ p, str k = p := ⟨_, rfl⟩
      rw [hp] at hc1 hcall
      obtain ⟨x, hx⟩ : ∃ x, hiN K j = x := ⟨_, rfl⟩
      obtain ⟨y, hy⟩ : ∃ y, k.high = y := ⟨_, rfl⟩
      rw [hx] at hnx hmj ⊢
      rw [hy] at hnx hcall hkh
      have HN := Lib.hid hnx
      clear hp hk hnx hx hy hcell
      go_wp2_with fail
      refine (hcall _).mono ?_
      rintro e w2 ⟨rfl, hb2⟩
      have ho2 := own_below ho hb2
      clear ho
      go_wp2_with fail
      all_goals
        go_roundg (K.length - (j + 1))
        case measure => omega
        case rel => exact ⟨j + 1, by omega, rfl, by rw [HN.out]; congr 1; omega, by go_num, ho2, bl hb hb2⟩
    · obtain rfl : j = K.length := by omega
      go_wp2_with fail
      go_ret
      exact ⟨by go_num, hb⟩
end Go.Proofs.YthonnpjlkcjoeaaGreatDoor.T
