/- Contracts of the answer's words on types as texts (culpritref04): Behind, Good, Part, Ground, Parts. -/
import Derived.Test.YtkebplifkkhhlaaDoorTyC
import Derived.Test.YtkebplifkkhhlaaDoorRelN
import Derived.Deep.LoopGhost
import Derived.Laws.IdiomStrings
namespace Go.Proofs.YtkebplifkkhhlaaDoor.T
open Go.RowKit Go.Proofs.YtkebplifkkhhlaaDoor.B
set_option linter.unusedSimpArgs false
set_option linter.unusedVariables false

/-- The place behind the type at a place; -1: none. -/
def behV (s : ByteArray) (p : Nat) : Int := if (skipN (s.data.toList.drop p) 1).2 = true then ((p + (skipN (s.data.toList.drop p) 1).1 : Nat) : Int) else -1
theorem ar_split (c : Int) : (ar c = 0 ∧ (c = 105 ∨ c = 98 ∨ c = 116 ∨ c = 63)) ∨ (ar c = 1 ∧ (c = 108 ∨ c = 120)) ∨ (ar c = 2 ∧ (c = 62 ∨ c = 44)) ∨
    (ar c = -1 ∧ (c == 105) = false ∧ (c == 98) = false ∧ (c == 116) = false ∧ (c == 63) = false ∧ (c == 62) = false ∧ (c == 44) = false ∧ (c == 108) = false ∧ (c == 120) = false) := by
  unfold ar
  split
  · rename_i h; exact .inl ⟨rfl, h⟩
  · split
    · rename_i h; exact .inr (.inl ⟨rfl, h⟩)
    · split
      · rename_i h; exact .inr (.inr (.inl ⟨rfl, h⟩))
      · right; right; right
        refine ⟨rfl, ?_⟩
        simp only [beq_eq_false_iff_ne]
        omega

set_option maxRecDepth 100000 in
set_option maxHeartbeats 4000000 in
theorem behind04_any (s : ByteArray) (p : Nat) (w : World) (hp : p ≤ s.size) (hs : s.size ≤ 4611686018427387904) :
    Calls Tryd.prog 96 #[.string s, .int .i64 p] w fun e w' => e = .returned (.int .i64 (behV s p)) ∧ w = w' := by
  obtain ⟨R, hR⟩ : ∃ R, skipN (s.data.toList.drop p) 1 = R := ⟨_, rfl⟩
  obtain ⟨V, hV⟩ : ∃ V, behV s p = V := ⟨_, rfl⟩
  have hV2 : V = if R.2 = true then ((p + R.1 : Nat) : Int) else -1 := by rw [← hV]; unfold behV; rw [hR]
  rw [hV]
  have HR : Hid (skipN (s.data.toList.drop p) 1 = R) := hR
  have HV := Lib.hid hV2
  clear hR hV hV2
  by_cases hlt : p < s.size
  · have hge : decide (s.size ≤ p) = false := by simp; omega
    have hneg : decide ((p : Int) < 0) = false := by simp
    go_enter Tryd.func96, Tryd.ntmps96
    go_wp2_with fail
    go_loopg [1, 5] (s.size - p) (fun g a n wr => ∃ (k L : Nat), p + k ≤ s.size ∧ L ≤ k + 1 ∧ g = s.size - (p + k) ∧ a = .int .i64 (p + k : Nat) ∧ n = .int .i64 L ∧ wr = w ∧ Hid (R = ((skipN (s.data.toList.drop (p + k)) L).1 + k, (skipN (s.data.toList.drop (p + k)) L).2)))
    case atStart => exact ⟨0, 1, by omega, by omega, by omega, rfl, rfl, rfl, by rw [← HR.out]; exact rfl⟩
    case round =>
      obtain ⟨k, L, hk, hL, rfl, rfl, rfl, rfl, hr⟩ := hrel
      by_cases h1 : p + k < s.size
      · by_cases h0 : 0 < L
        · obtain ⟨c, hc⟩ : ∃ c, s[p + k] = c := ⟨_, rfl⟩
          have hd := drop_byte s (p + k) h1
          rw [hc] at hd
          rw [hd] at hr
          obtain ⟨L', rfl⟩ : ∃ L', L = L' + 1 := ⟨L - 1, by omega⟩
          have hcn : ((s[p + k]).toNat : Int) = (c.toNat : Int) := by rw [hc]
          obtain ⟨ci, hci⟩ : ∃ ci : Int, (c.toNat : Int) = ci := ⟨_, rfl⟩
          rw [hci] at hcn
          have hq : arB c = ar ci := by unfold arB; rw [hci]
          have hsk : ∀ (m : Nat), ar ci = m → Hid (R = ((skipN (s.data.toList.drop (p + (k + 1))) (L' + m)).1 + (k + 1), (skipN (s.data.toList.drop (p + (k + 1))) (L' + m)).2)) := fun m hm => by
            show R = _
            rw [hr.out]
            simp only [skipN, hq, hm]
            rw [if_neg (by omega), show p + k + 1 = p + (k + 1) by omega, Int.toNat_natCast]
            exact Prod.ext (by simp only; omega) rfl
          have hbad : ar ci = -1 → R.2 = false := fun hm => by
            rw [hr.out]; simp only [skipN, hq, hm]; rfl
          have HSK := Lib.hid hsk
          have HBAD := Lib.hid hbad
          clear hsk hbad hr hd hc hci hq HR
          rcases ar_split ci with ⟨ha, h5 | h5 | h5 | h5⟩ | ⟨ha, h5 | h5⟩ | ⟨ha, h5 | h5⟩ | ⟨ha, b1, b2, b3, b4, b5, b6, b7, b8⟩
          · have HS := Lib.hid (HSK.out 0 ha); clear HSK HBAD ha; rw [h5] at hcn; clear h5
            go_wp2_with fail
            go_roundg (s.size - (p + (k + 1)))
            case measure => omega
            case rel => exact ⟨k + 1, L', by omega, by omega, rfl, by go_num, by go_num, rfl, HS.out⟩
          · have HS := Lib.hid (HSK.out 0 ha); clear HSK HBAD ha; rw [h5] at hcn; clear h5
            go_wp2_with fail
            go_roundg (s.size - (p + (k + 1)))
            case measure => omega
            case rel => exact ⟨k + 1, L', by omega, by omega, rfl, by go_num, by go_num, rfl, HS.out⟩
          · have HS := Lib.hid (HSK.out 0 ha); clear HSK HBAD ha; rw [h5] at hcn; clear h5
            go_wp2_with fail
            go_roundg (s.size - (p + (k + 1)))
            case measure => omega
            case rel => exact ⟨k + 1, L', by omega, by omega, rfl, by go_num, by go_num, rfl, HS.out⟩
          · have HS := Lib.hid (HSK.out 0 ha); clear HSK HBAD ha; rw [h5] at hcn; clear h5
            go_wp2_with fail
            go_roundg (s.size - (p + (k + 1)))
            case measure => omega
            case rel => exact ⟨k + 1, L', by omega, by omega, rfl, by go_num, by go_num, rfl, HS.out⟩
          · have HS := Lib.hid (HSK.out 1 ha); clear HSK HBAD ha; rw [h5] at hcn; clear h5
            go_wp2_with fail
            go_roundg (s.size - (p + (k + 1)))
            case measure => omega
            case rel => exact ⟨k + 1, L' + 1, by omega, by omega, rfl, by go_num, by go_num, rfl, HS.out⟩
          · have HS := Lib.hid (HSK.out 1 ha); clear HSK HBAD ha; rw [h5] at hcn; clear h5
            go_wp2_with fail
            go_roundg (s.size - (p + (k + 1)))
            case measure => omega
            case rel => exact ⟨k + 1, L' + 1, by omega, by omega, rfl, by go_num, by go_num, rfl, HS.out⟩
          · have HS := Lib.hid (HSK.out 2 ha); clear HSK HBAD ha; rw [h5] at hcn; clear h5
            go_wp2_with fail
            go_roundg (s.size - (p + (k + 1)))
            case measure => omega
            case rel => exact ⟨k + 1, L' + 2, by omega, by omega, rfl, by go_num, by go_num, rfl, HS.out⟩
          · have HS := Lib.hid (HSK.out 2 ha); clear HSK HBAD ha; rw [h5] at hcn; clear h5
            go_wp2_with fail
            go_roundg (s.size - (p + (k + 1)))
            case measure => omega
            case rel => exact ⟨k + 1, L' + 2, by omega, by omega, rfl, by go_num, by go_num, rfl, HS.out⟩
          · have HB := Lib.hid (HBAD.out ha)
            clear HSK HBAD ha
            rw [← hcn] at b1 b2 b3 b4 b5 b6 b7 b8
            clear hcn
            go_wp2_with fail
            go_ret
            exact ⟨by rw [HV.out, if_neg (by rw [HB.out]; decide)]; rfl, rfl⟩
        · obtain rfl : L = 0 := by omega
          have hR : R = (k, true) := by rw [hr.out]; simp [skipN]
          have HR3 := Lib.hid hR
          clear hr HR hR
          go_wp2_with fail
          go_ret
          exact ⟨by rw [HV.out, HR3.out]; rfl, rfl⟩
      · have hd := drop_end s (p + k) (by omega)
        rw [hd] at hr
        by_cases h0 : 0 < L
        · obtain ⟨L', rfl⟩ : ∃ L', L = L' + 1 := ⟨L - 1, by omega⟩
          have hR : R.2 = false := by rw [hr.out]; simp [skipN]
          have HR3 := Lib.hid hR
          clear hr HR hR hd
          go_wp2_with fail
          go_ret
          exact ⟨by rw [HV.out, if_neg (by rw [HR3.out]; decide)]; rfl, rfl⟩
        · obtain rfl : L = 0 := by omega
          have hR : R = (k, true) := by rw [hr.out]; simp [skipN]
          have HR3 := Lib.hid hR
          clear hr HR hR hd
          go_wp2_with fail
          go_ret
          exact ⟨by rw [HV.out, HR3.out]; rfl, rfl⟩
  · have hR : R.2 = false := by rw [← HR.out, drop_end s p (by omega)]; simp [skipN]
    have HR3 := Lib.hid hR
    clear HR hR
    go_enter Tryd.func96, Tryd.ntmps96
    go_wp2_with fail
    go_ret
    exact ⟨by rw [HV.out, if_neg (by rw [HR3.out]; decide)]; rfl, rfl⟩

theorem good04_any (s : ByteArray) (w : World) (hs : s.size ≤ 4611686018427387904) : Calls Tryd.prog 49 #[.string s] w fun e w' => e = .returned (.bool (isB s)) ∧ w = w' := by
  have hl : s.data.toList.length = s.size := by simp
  have hb := behind04_any s 0 w (by omega) hs
  have hle := skipN_le s.data.toList 1
  rw [hl] at hle
  obtain ⟨r, hr⟩ : ∃ r, isB s = r := ⟨_, rfl⟩
  have hv : behV s 0 = if (skipN s.data.toList 1).2 = true then ((skipN s.data.toList 1).1 : Int) else -1 := by unfold behV; rw [List.drop_zero, Nat.zero_add]
  have hr2 : r = if 64 < s.size then false else (behV s 0 == (s.size : Int)) && decide (0 < s.size) := by
    rw [← hr]
    unfold isB checkL
    rw [hl, hv]
    by_cases h64 : 64 < s.size
    · rw [if_pos h64, if_pos h64]; rfl
    · rw [if_neg h64, if_neg h64]
      cases h2 : (skipN s.data.toList 1).2
      · rw [if_pos (.inl rfl), if_neg (by simp)]
        have : ((-1 : Int) == (s.size : Int)) = false := by rw [beq_eq_false_iff_ne]; omega
        rw [this]; rfl
      · rw [if_pos rfl]
        have hpos : 0 < s.size := by
          rcases Nat.eq_zero_or_pos s.size with h0 | h0
          · have : s.data.toList = [] := List.eq_nil_of_length_eq_zero (by rw [hl, h0])
            rw [this] at h2
            simp [skipN] at h2
          · exact h0
        by_cases h3 : (skipN s.data.toList 1).1 < s.size
        · rw [if_pos (.inr h3)]
          have : (((skipN s.data.toList 1).1 : Int) == (s.size : Int)) = false := by rw [beq_eq_false_iff_ne]; omega
          rw [this]; rfl
        · rw [if_neg (by simp; omega)]
          have : (((skipN s.data.toList 1).1 : Int) == (s.size : Int)) = true := by rw [beq_iff_eq]; omega
          rw [this]; simp [hpos]
  rw [hr]
  obtain ⟨V, hV⟩ : ∃ V, behV s 0 = V := ⟨_, rfl⟩
  rw [hV] at hb hr2
  have HR := Lib.hid hr2
  clear hV hv hr hr2 hle hl
  by_cases h64 : 64 < s.size
  · go_enter Tryd.func49, Tryd.ntmps49
    go_wp2_with fail
    go_ret
    exact ⟨by rw [HR.out, if_pos h64]; rfl, rfl⟩
  · rcases Nat.eq_zero_or_pos s.size with h0 | h0
    · have h0' : s.size = 0 := h0
      have hz : decide (0 < s.size) = false := decide_eq_false (by omega)
      have HZ := Lib.hid h0'
      clear h0 h0'
      go_enter Tryd.func49, Tryd.ntmps49
      go_wp2_with fail
      go_ret
      exact ⟨by rw [HR.out, if_neg h64, hz, Bool.and_false]; rfl, rfl⟩
    · have h00 : 0 < s.size := h0
      go_enter Tryd.func49, Tryd.ntmps49
      go_wp2_with fail
      (refine hb.mono ?_); rintro ev w1 ⟨rfl, rfl⟩
      go_wp2_with fail
      go_ret
      exact ⟨by rw [HR.out, if_neg h64, decide_eq_true h00, Bool.and_true]; rfl, rfl⟩

/-- Where a type's kids begin. -/
theorem behV_kid {T : Ty} {K : List Ty} {k : Nat} {x : Ty} (hT : T.ok) (hK : T.kids = K) (hk : K[k]? = some x) : behV (str T) (1 + clen K k) = ((1 + clen K (k + 1) : Nat) : Int) := by
  have hok : x.ok := Ty.kids_ok hT (by rw [hK]; exact List.mem_of_getElem? hk)
  unfold behV
  have hd : (str T).data.toList.drop (1 + clen K k) = x.code ++ (K.drop (k + 1)).flatMap Ty.code := by
    rw [str, bs_list, Ty.code_eq, hK, ← List.drop_drop, List.drop_succ_cons, List.drop_zero, drop_clen hk]
  rw [hd, skipN_code x hok _ 0]
  have h0 : skipN ((K.drop (k + 1)).flatMap Ty.code) 0 = (0, true) := by cases (K.drop (k + 1)).flatMap Ty.code <;> rfl
  rw [h0, if_pos rfl, clen_succ hk]
  simp only; omega

set_option maxHeartbeats 1000000 in
theorem part04_any (T : Ty) (i : Nat) (x : Ty) (w : World) (hT : T.ok) (h64 : T.code.length ≤ 64) (hi : T.kids[i]? = some x) :
    Calls Tryd.prog 98 #[.string (str T), .int .i64 (i : Nat)] w fun e w' => e = .returned (.string (str x)) ∧ w = w' := by
  obtain ⟨K, hK⟩ : ∃ K, T.kids = K := ⟨_, rfl⟩
  rw [hK] at hi
  have hbe : ∀ k x, K[k]? = some x → ∀ W, Calls Tryd.prog 96 #[.string (str T), .int .i64 (1 + clen K k : Nat)] W fun e w' => e = .returned (.int .i64 ((1 + clen K (k + 1) : Nat) : Int)) ∧ W = w' := fun k x hx W => by
    have hsz : (str T).size = 1 + (K.flatMap Ty.code).length := by simp only [str, bs_size, Ty.code_eq T, List.length_cons, hK]; omega
    have hle : 1 + clen K k ≤ (str T).size := by
      rw [hsz, ← clen_all K]
      unfold clen
      have : ((K.take k).flatMap Ty.code).length ≤ ((K.take K.length).flatMap Ty.code).length := by
        rw [List.take_length]
        conv => rhs; rw [← List.take_append_drop k K, List.flatMap_append, List.length_append]
        omega
      omega
    have := behind04_any (str T) (1 + clen K k) W hle (by simp [str]; omega)
    rw [behV_kid hT hK hx] at this
    exact this
  have hl : i < K.length := (List.getElem?_eq_some_iff.1 hi).1
  have hsz : (str T).size = 1 + clen K K.length := by rw [clen_all]; simp only [str, bs_size, Ty.code_eq T, List.length_cons, hK]; omega
  have hmono : clen K (i + 1) ≤ clen K K.length := by
    unfold clen
    rw [List.take_length]
    conv => rhs; rw [← List.take_append_drop (i + 1) K, List.flatMap_append, List.length_append]
    omega
  have hcs := clen_succ hi
  have hex : (str T).extract (1 + clen K i) (1 + clen K (i + 1)) = str x := by
    rw [extract_bs, str, bs_list, Ty.code_eq, hK, ← List.drop_drop, List.drop_succ_cons, List.drop_zero, drop_clen hi, hcs, show 1 + (clen K i + x.code.length) - (1 + clen K i) = x.code.length by omega, List.take_left]; rfl
  obtain ⟨s, hs⟩ : ∃ s, str T = s := ⟨_, rfl⟩
  have hk2 : K.length ≤ 2 := by rw [← hK]; exact T.kids_le
  have hi2 : i ≤ 2 := by omega
  have hs64 : s.size ≤ 64 := by rw [← hs]; simp only [str, bs_size]; exact h64
  rw [hs] at hbe hsz hex ⊢
  have HBE := Lib.hid hbe
  have HEX := Lib.hid hex
  have HK2 := Lib.hid hk2
  have hend : 1 + clen K (i + 1) ≤ s.size := by omega
  have hbi := hbe i x hi
  obtain ⟨a, ha⟩ : ∃ a, 1 + clen K i = a := ⟨_, rfl⟩
  obtain ⟨b, hb⟩ : ∃ b, 1 + clen K (i + 1) = b := ⟨_, rfl⟩
  have hab : a ≤ b ∧ b ≤ s.size := by omega
  have HA := Lib.hid ha
  rw [ha] at hbi hex
  rw [hb] at hbi hex hend
  have HBI := Lib.hid hbi
  have HEX2 := Lib.hid hex
  clear hbe hex hk2 hbi hs hsz hmono hcs hb ha hT h64 hK
  go_enter Tryd.func98, Tryd.ntmps98
  go_wp2_with fail
  go_loopg [5, 6] i (fun g a k wr => ∃ m : Nat, m ≤ i ∧ g = i - m ∧ a = .int .i64 (1 + clen K m : Nat) ∧ k = .int .i64 m ∧ wr = w)
  case atStart => exact ⟨0, by omega, rfl, rfl, rfl, rfl⟩
  case round =>
    obtain ⟨m, hm, rfl, rfl, rfl, rfl⟩ := hrel
    by_cases hlt : m < i
    · have hmK : m < K.length := Nat.lt_trans hlt hl
      obtain ⟨y, hy⟩ : ∃ y, K[m]? = some y := ⟨K[m]'hmK, List.getElem?_eq_getElem hmK⟩
      clear hmK
      have HM := Lib.hid (HBE.out m y hy)
      clear hy
      obtain ⟨cm, hcm⟩ : ∃ x, 1 + clen K m = x := ⟨_, rfl⟩
      obtain ⟨cm1, hcm1⟩ : ∃ x, 1 + clen K (m + 1) = x := ⟨_, rfl⟩
      rw [hcm, hcm1] at HM
      rw [hcm]
      have HC1 := Lib.hid hcm1
      clear hcm hcm1
      go_wp2_with fail
      (refine (HM.out _).mono ?_); rintro ev w1 ⟨rfl, rfl⟩
      go_wp2_with fail
      go_roundg (i - (m + 1))
      case measure => omega
      case rel => exact ⟨m + 1, by omega, rfl, by rw [HC1.out], by go_num, rfl⟩
    · obtain rfl : m = i := by omega
      rw [HA.out]
      have ha0 : (0 : Int) ≤ (a : Int) := by omega
      have hab1 : a ≤ b := hab.1
      have hab2 : b ≤ s.size := hab.2
      go_wp2_with fail
      (refine (HBI.out _).mono ?_); rintro ev w1 ⟨rfl, rfl⟩
      go_wp2_with fail
      go_ret
      exact ⟨by rw [← HEX2.out]; rfl, rfl⟩

/-- A head's ground, as letters. -/
def grL (c : UInt8) (n : Nat) : List UInt8 := c :: List.replicate n 63
set_option maxRecDepth 100000 in
set_option maxHeartbeats 1000000 in
theorem ground04_any (c : UInt8) (n : Nat) (w : World) (hn : n ≤ 2) (hp : ∀ W, Calls Tryd.prog 125 #[.int .u8 (c.toNat : Int)] W fun e w' => e = .returned (.int .i64 (n : Nat)) ∧ W = w') :
    Calls Tryd.prog 97 #[.int .u8 (c.toNat : Int)] w fun e w' => e = .returned (.string (bs (grL c n))) ∧ Below w.heap.size w w' := by
  have hcv := run_convert_bytes_back (P := Tryd.prog) (w.alloc (.cells #[.int .u8 (c.toNat : Int)] 5)) 193 9 5 ⟨w.heap.size, 0, none⟩ 1 [c] Tryd.underlying193 Tryd.underlying5 Tryd.underlying9 (fun j hj => by
    have : j = 0 := by simpa using hj
    subst this
    exact World.cell?_alloc_new w #[.int .u8 (c.toNat : Int)] 5 0)
  have hcv2 : (convert 193 9 (.slice (some ⟨w.heap.size, 0, none⟩) 1 1)).run Tryd.prog (w.alloc (.cells #[.int .u8 (c.toNat : Int)] 5)) = .ok (.string (bs (grL c 0))) (w.alloc (.cells #[.int .u8 (c.toNat : Int)] 5)) := hcv
  clear hcv
  have hcat : ∀ k, bs (grL c k) ++ (⟨#[63]⟩ : ByteArray) = bs (grL c (k + 1)) := fun k => by
    apply ByteArray.ext
    apply Array.toList_inj.1
    simp only [ByteArray.data_append, Array.toList_append, bs_list, bs, grL, List.replicate_succ', List.cons_append]
  have hsz : ∀ k, (bs (grL c k)).size = k + 1 := fun k => by rw [bs_size]; simp [grL]
  have HCAT := Lib.hid hcat
  have HSZ := Lib.hid hsz
  have HP := Lib.hid hp
  have hn1 : n ≤ 1000 := by omega
  clear hp hcat hsz
  go_enter Tryd.func97, Tryd.ntmps97
  go_wp2_with fail
  go_loopg [3, 4] n (fun g s i wr => ∃ k : Nat, k ≤ n ∧ g = n - k ∧ s = .string (bs (grL c k)) ∧ i = .int .i64 k ∧ Below w.heap.size w wr)
  case atStart => exact ⟨0, by omega, rfl, rfl, rfl, bal b0 _⟩
  case round =>
    obtain ⟨k, hk, rfl, rfl, rfl, hb⟩ := hrel
    have HB := Lib.hid hb
    clear hb
    have hc2 := HCAT.out k
    have hz := HSZ.out k
    obtain ⟨S0, hS0⟩ : ∃ x, bs (grL c k) = x := ⟨_, rfl⟩
    rw [hS0] at hc2 hz ⊢
    have hz2 : S0.size ≤ 1001 := by omega
    have HC2 := Lib.hid hc2
    have HS0 := Lib.hid hS0
    clear hc2 hz hS0
    by_cases hlt : k < n
    · go_wp2_with fail
      (refine (HP.out _).mono ?_); rintro ev w1 ⟨rfl, rfl⟩
      go_wp2_with fail
      go_roundg (n - (k + 1))
      case measure => omega
      case rel => exact ⟨k + 1, by omega, rfl, by rw [← HC2.out], by go_num, HB.out⟩
    · obtain rfl : k = n := by omega
      go_wp2_with fail
      (refine (HP.out _).mono ?_); rintro ev w1 ⟨rfl, rfl⟩
      go_wp2_with fail
      go_ret
      exact ⟨by rw [HS0.out]; rfl, HB.out⟩
end Go.Proofs.YtkebplifkkhhlaaDoor.T
