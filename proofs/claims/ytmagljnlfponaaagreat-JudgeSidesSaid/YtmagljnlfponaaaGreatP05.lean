/- Parts of this claim: SfA, Rg, RtA, RtC. -/
import Derived.Deep.LoopGhost
import Derived.Laws.IdiomStrings
import Derived.Deep.RegionHeld3
import Derived.KernelRfl
import Derived.Test.YtmagljnlfponaaaGreatP00
import Derived.Test.YtmagljnlfponaaaGreatP04
import Derived.Test.YtmagljnlfponaaaGreatP01
set_option linter.unusedVariables false
set_option linter.unusedSimpArgs false
/- SfA -/
namespace Go.Proofs.YtmagljnlfponaaaGreat.T
open Go.RowKit Go.Proofs.YtmagljnlfponaaaGreat.B
set_option linter.unusedSimpArgs false
set_option linter.unusedVariables false

/-- The place behind the type at a place; -1: none. -/
def behV (s : ByteArray) (p : Nat) : Int := if (skipN (s.data.toList.drop p) 1).2 = true then ((p + (skipN (s.data.toList.drop p) 1).1 : Nat) : Int) else -1
theorem ar_split (c : Int) : (ar c = 0 ∧ (c = 105 ∨ c = 98 ∨ c = 116 ∨ c = 63)) ∨ (ar c = 1 ∧ (c = 108 ∨ c = 120)) ∨ (ar c = 2 ∧ (c = 62 ∨ c = 44)) ∨
    (ar c = -1 ∧ (c == 105) = false ∧ (c == 98) = false ∧ (c == 116) = false ∧ (c == 63) = false ∧ (c == 62) = false ∧ (c == 44) = false ∧ (c == 108) = false ∧ (c == 120) = false) := by
  unfold ar
  split
  · rename_i h; exact .inl ⟨rfl, h⟩
  · split
    · rename_i h; exact .inr (.inl ⟨rfl, h⟩)
    · split
      · rename_i h; exact .inr (.inr (.inl ⟨rfl, h⟩))
      · right; right; right
        refine ⟨rfl, ?_⟩
        simp only [beq_eq_false_iff_ne]
        omega

set_option maxRecDepth 100000 in
set_option maxHeartbeats 4000000 in
theorem behind04_any (s : ByteArray) (p : Nat) (w : World) (hp : p ≤ s.size) (hs : s.size ≤ 4611686018427387904) :
    Calls Tryz.prog 57 #[.string s, .int .i64 p] w fun e w' => e = .returned (.int .i64 (behV s p)) ∧ w = w' := by
  obtain ⟨R, hR⟩ : ∃ R, skipN (s.data.toList.drop p) 1 = R := ⟨_, rfl⟩
  obtain ⟨V, hV⟩ : ∃ V, behV s p = V := ⟨_, rfl⟩
  have hV2 : V = if R.2 = true then ((p + R.1 : Nat) : Int) else -1 := by rw [← hV]; unfold behV; rw [hR]
  rw [hV]
  have HR : Hid (skipN (s.data.toList.drop p) 1 = R) := hR
  have HV := Lib.hid hV2
  clear hR hV hV2
  by_cases hlt : p < s.size
  · have hge : decide (s.size ≤ p) = false := by simp; omega
    have hneg : decide ((p : Int) < 0) = false := by simp
    go_enter Tryz.func57, Tryz.ntmps57
    go_wp2_with fail
    go_loopg [1, 5] (s.size - p) (fun g a n wr => ∃ (k L : Nat), p + k ≤ s.size ∧ L ≤ k + 1 ∧ g = s.size - (p + k) ∧ a = .int .i64 (p + k : Nat) ∧ n = .int .i64 L ∧ wr = w ∧ Hid (R = ((skipN (s.data.toList.drop (p + k)) L).1 + k, (skipN (s.data.toList.drop (p + k)) L).2)))
    case atStart => exact ⟨0, 1, by omega, by omega, by omega, rfl, rfl, rfl, by rw [← HR.out]; exact rfl⟩
    case round =>
      obtain ⟨k, L, hk, hL, rfl, rfl, rfl, rfl, hr⟩ := hrel
      by_cases h1 : p + k < s.size
      · by_cases h0 : 0 < L
        · obtain ⟨c, hc⟩ : ∃ c, s[p + k] = c := ⟨_, rfl⟩
          have hd := drop_byte s (p + k) h1
          rw [hc] at hd
          rw [hd] at hr
          obtain ⟨L', rfl⟩ : ∃ L', L = L' + 1 := ⟨L - 1, by omega⟩
          have hcn : ((s[p + k]).toNat : Int) = (c.toNat : Int) := by rw [hc]
          obtain ⟨ci, hci⟩ : ∃ ci : Int, (c.toNat : Int) = ci := ⟨_, rfl⟩
          rw [hci] at hcn
          have hq : arB c = ar ci := by unfold arB; rw [hci]
          have hsk : ∀ (m : Nat), ar ci = m → Hid (R = ((skipN (s.data.toList.drop (p + (k + 1))) (L' + m)).1 + (k + 1), (skipN (s.data.toList.drop (p + (k + 1))) (L' + m)).2)) := fun m hm => by
            show R = _
            rw [hr.out]
            simp only [skipN, hq, hm]
            rw [if_neg (by omega), show p + k + 1 = p + (k + 1) by omega, Int.toNat_natCast]
            exact Prod.ext (by simp only; omega) rfl
          have hbad : ar ci = -1 → R.2 = false := fun hm => by
            rw [hr.out]; simp only [skipN, hq, hm]; rfl
          have HSK := Lib.hid hsk
          have HBAD := Lib.hid hbad
          clear hsk hbad hr hd hc hci hq HR
          rcases ar_split ci with ⟨ha, h5 | h5 | h5 | h5⟩ | ⟨ha, h5 | h5⟩ | ⟨ha, h5 | h5⟩ | ⟨ha, b1, b2, b3, b4, b5, b6, b7, b8⟩
          · have HS := Lib.hid (HSK.out 0 ha); clear HSK HBAD ha; rw [h5] at hcn; clear h5
            go_wp2_with fail
            go_roundg (s.size - (p + (k + 1)))
            case measure => omega
            case rel => exact ⟨k + 1, L', by omega, by omega, rfl, by go_num, by go_num, rfl, HS.out⟩
          · have HS := Lib.hid (HSK.out 0 ha); clear HSK HBAD ha; rw [h5] at hcn; clear h5
            go_wp2_with fail
            go_roundg (s.size - (p + (k + 1)))
            case measure => omega
            case rel => exact ⟨k + 1, L', by omega, by omega, rfl, by go_num, by go_num, rfl, HS.out⟩
          · have HS := Lib.hid (HSK.out 0 ha); clear HSK HBAD ha; rw [h5] at hcn; clear h5
            go_wp2_with fail
            go_roundg (s.size - (p + (k + 1)))
            case measure => omega
            case rel => exact ⟨k + 1, L', by omega, by omega, rfl, by go_num, by go_num, rfl, HS.out⟩
          · have HS := Lib.hid (HSK.out 0 ha); clear HSK HBAD ha; rw [h5] at hcn; clear h5
            go_wp2_with fail
            go_roundg (s.size - (p + (k + 1)))
            case measure => omega
            case rel => exact ⟨k + 1, L', by omega, by omega, rfl, by go_num, by go_num, rfl, HS.out⟩
          · have HS := Lib.hid (HSK.out 1 ha); clear HSK HBAD ha; rw [h5] at hcn; clear h5
            go_wp2_with fail
            go_roundg (s.size - (p + (k + 1)))
            case measure => omega
            case rel => exact ⟨k + 1, L' + 1, by omega, by omega, rfl, by go_num, by go_num, rfl, HS.out⟩
          · have HS := Lib.hid (HSK.out 1 ha); clear HSK HBAD ha; rw [h5] at hcn; clear h5
            go_wp2_with fail
            go_roundg (s.size - (p + (k + 1)))
            case measure => omega
            case rel => exact ⟨k + 1, L' + 1, by omega, by omega, rfl, by go_num, by go_num, rfl, HS.out⟩
          · have HS := Lib.hid (HSK.out 2 ha); clear HSK HBAD ha; rw [h5] at hcn; clear h5
            go_wp2_with fail
            go_roundg (s.size - (p + (k + 1)))
            case measure => omega
            case rel => exact ⟨k + 1, L' + 2, by omega, by omega, rfl, by go_num, by go_num, rfl, HS.out⟩
          · have HS := Lib.hid (HSK.out 2 ha); clear HSK HBAD ha; rw [h5] at hcn; clear h5
            go_wp2_with fail
            go_roundg (s.size - (p + (k + 1)))
            case measure => omega
            case rel => exact ⟨k + 1, L' + 2, by omega, by omega, rfl, by go_num, by go_num, rfl, HS.out⟩
          · have HB := Lib.hid (HBAD.out ha)
            clear HSK HBAD ha
            rw [← hcn] at b1 b2 b3 b4 b5 b6 b7 b8
            clear hcn
            go_wp2_with fail
            go_ret
            exact ⟨by rw [HV.out, if_neg (by rw [HB.out]; decide)]; rfl, rfl⟩
        · obtain rfl : L = 0 := by omega
          have hR : R = (k, true) := by rw [hr.out]; simp [skipN]
          have HR3 := Lib.hid hR
          clear hr HR hR
          go_wp2_with fail
          go_ret
          exact ⟨by rw [HV.out, HR3.out]; rfl, rfl⟩
      · have hd := drop_end s (p + k) (by omega)
        rw [hd] at hr
        by_cases h0 : 0 < L
        · obtain ⟨L', rfl⟩ : ∃ L', L = L' + 1 := ⟨L - 1, by omega⟩
          have hR : R.2 = false := by rw [hr.out]; simp [skipN]
          have HR3 := Lib.hid hR
          clear hr HR hR hd
          go_wp2_with fail
          go_ret
          exact ⟨by rw [HV.out, if_neg (by rw [HR3.out]; decide)]; rfl, rfl⟩
        · obtain rfl : L = 0 := by omega
          have hR : R = (k, true) := by rw [hr.out]; simp [skipN]
          have HR3 := Lib.hid hR
          clear hr HR hR hd
          go_wp2_with fail
          go_ret
          exact ⟨by rw [HV.out, HR3.out]; rfl, rfl⟩
  · have hR : R.2 = false := by rw [← HR.out, drop_end s p (by omega)]; simp [skipN]
    have HR3 := Lib.hid hR
    clear HR hR
    go_enter Tryz.func57, Tryz.ntmps57
    go_wp2_with fail
    go_ret
    exact ⟨by rw [HV.out, if_neg (by rw [HR3.out]; decide)]; rfl, rfl⟩

theorem good04_any (s : ByteArray) (w : World) (hs : s.size ≤ 4611686018427387904) : Calls Tryz.prog 97 #[.string s] w fun e w' => e = .returned (.bool (isB s)) ∧ w = w' := by
  have hl : s.data.toList.length = s.size := by simp
  have hb := behind04_any s 0 w (by omega) hs
  have hle := skipN_le s.data.toList 1
  rw [hl] at hle
  obtain ⟨r, hr⟩ : ∃ r, isB s = r := ⟨_, rfl⟩
  have hv : behV s 0 = if (skipN s.data.toList 1).2 = true then ((skipN s.data.toList 1).1 : Int) else -1 := by unfold behV; rw [List.drop_zero, Nat.zero_add]
  have hr2 : r = if 64 < s.size then false else (behV s 0 == (s.size : Int)) && decide (0 < s.size) := by
    rw [← hr]
    unfold isB checkL
    rw [hl, hv]
    by_cases h64 : 64 < s.size
    · rw [if_pos h64, if_pos h64]; rfl
    · rw [if_neg h64, if_neg h64]
      cases h2 : (skipN s.data.toList 1).2
      · rw [if_pos (.inl rfl), if_neg (by simp)]
        have : ((-1 : Int) == (s.size : Int)) = false := by rw [beq_eq_false_iff_ne]; omega
        rw [this]; rfl
      · rw [if_pos rfl]
        have hpos : 0 < s.size := by
          rcases Nat.eq_zero_or_pos s.size with h0 | h0
          · have : s.data.toList = [] := List.eq_nil_of_length_eq_zero (by rw [hl, h0])
            rw [this] at h2
            simp [skipN] at h2
          · exact h0
        by_cases h3 : (skipN s.data.toList 1).1 < s.size
        · rw [if_pos (.inr h3)]
          have : (((skipN s.data.toList 1).1 : Int) == (s.size : Int)) = false := by rw [beq_eq_false_iff_ne]; omega
          rw [this]; rfl
        · rw [if_neg (by simp; omega)]
          have : (((skipN s.data.toList 1).1 : Int) == (s.size : Int)) = true := by rw [beq_iff_eq]; omega
          rw [this]; simp [hpos]
  rw [hr]
  obtain ⟨V, hV⟩ : ∃ V, behV s 0 = V := ⟨_, rfl⟩
  rw [hV] at hb hr2
  have HR := Lib.hid hr2
  clear hV hv hr hr2 hle hl
  by_cases h64 : 64 < s.size
  · go_enter Tryz.func97, Tryz.ntmps97
    go_wp2_with fail
    go_ret
    exact ⟨by rw [HR.out, if_pos h64]; rfl, rfl⟩
  · rcases Nat.eq_zero_or_pos s.size with h0 | h0
    · have h0' : s.size = 0 := h0
      have hz : decide (0 < s.size) = false := decide_eq_false (by omega)
      have HZ := Lib.hid h0'
      clear h0 h0'
      go_enter Tryz.func97, Tryz.ntmps97
      go_wp2_with fail
      go_ret
      exact ⟨by rw [HR.out, if_neg h64, hz, Bool.and_false]; rfl, rfl⟩
    · have h00 : 0 < s.size := h0
      go_enter Tryz.func97, Tryz.ntmps97
      go_wp2_with fail
      (refine hb.mono ?_); rintro ev w1 ⟨rfl, rfl⟩
      go_wp2_with fail
      go_ret
      exact ⟨by rw [HR.out, if_neg h64, decide_eq_true h00, Bool.and_true]; rfl, rfl⟩

/-- Where a type's kids begin. -/
theorem behV_kid {T : Ty} {K : List Ty} {k : Nat} {x : Ty} (hT : T.ok) (hK : T.kids = K) (hk : K[k]? = some x) : behV (str T) (1 + clen K k) = ((1 + clen K (k + 1) : Nat) : Int) := by
  have hok : x.ok := Ty.kids_ok hT (by rw [hK]; exact List.mem_of_getElem? hk)
  unfold behV
  have hd : (str T).data.toList.drop (1 + clen K k) = x.code ++ (K.drop (k + 1)).flatMap Ty.code := by
    rw [str, bs_list, Ty.code_eq, hK, ← List.drop_drop, List.drop_succ_cons, List.drop_zero, drop_clen hk]
  rw [hd, skipN_code x hok _ 0]
  have h0 : skipN ((K.drop (k + 1)).flatMap Ty.code) 0 = (0, true) := by cases (K.drop (k + 1)).flatMap Ty.code <;> rfl
  rw [h0, if_pos rfl, clen_succ hk]
  simp only; omega

set_option maxHeartbeats 1000000 in
theorem part04_any (T : Ty) (i : Nat) (x : Ty) (w : World) (hT : T.ok) (h64 : T.code.length ≤ 64) (hi : T.kids[i]? = some x) :
    Calls Tryz.prog 45 #[.string (str T), .int .i64 (i : Nat)] w fun e w' => e = .returned (.string (str x)) ∧ w = w' := by
  obtain ⟨K, hK⟩ : ∃ K, T.kids = K := ⟨_, rfl⟩
  rw [hK] at hi
  have hbe : ∀ k x, K[k]? = some x → ∀ W, Calls Tryz.prog 57 #[.string (str T), .int .i64 (1 + clen K k : Nat)] W fun e w' => e = .returned (.int .i64 ((1 + clen K (k + 1) : Nat) : Int)) ∧ W = w' := fun k x hx W => by
    have hsz : (str T).size = 1 + (K.flatMap Ty.code).length := by simp only [str, bs_size, Ty.code_eq T, List.length_cons, hK]; omega
    have hle : 1 + clen K k ≤ (str T).size := by
      rw [hsz, ← clen_all K]
      unfold clen
      have : ((K.take k).flatMap Ty.code).length ≤ ((K.take K.length).flatMap Ty.code).length := by
        rw [List.take_length]
        conv => rhs; rw [← List.take_append_drop k K, List.flatMap_append, List.length_append]
        omega
      omega
    have := behind04_any (str T) (1 + clen K k) W hle (by simp [str]; omega)
    rw [behV_kid hT hK hx] at this
    exact this
  have hl : i < K.length := (List.getElem?_eq_some_iff.1 hi).1
  have hsz : (str T).size = 1 + clen K K.length := by rw [clen_all]; simp only [str, bs_size, Ty.code_eq T, List.length_cons, hK]; omega
  have hmono : clen K (i + 1) ≤ clen K K.length := by
    unfold clen
    rw [List.take_length]
    conv => rhs; rw [← List.take_append_drop (i + 1) K, List.flatMap_append, List.length_append]
    omega
  have hcs := clen_succ hi
  have hex : (str T).extract (1 + clen K i) (1 + clen K (i + 1)) = str x := by
    rw [extract_bs, str, bs_list, Ty.code_eq, hK, ← List.drop_drop, List.drop_succ_cons, List.drop_zero, drop_clen hi, hcs, show 1 + (clen K i + x.code.length) - (1 + clen K i) = x.code.length by omega, List.take_left]; rfl
  obtain ⟨s, hs⟩ : ∃ s, str T = s := ⟨_, rfl⟩
  have hk2 : K.length ≤ 2 := by rw [← hK]; exact T.kids_le
  have hi2 : i ≤ 2 := by omega
  have hs64 : s.size ≤ 64 := by rw [← hs]; simp only [str, bs_size]; exact h64
  rw [hs] at hbe hsz hex ⊢
  have HBE := Lib.hid hbe
  have HEX := Lib.hid hex
  have HK2 := Lib.hid hk2
  have hend : 1 + clen K (i + 1) ≤ s.size := by omega
  have hbi := hbe i x hi
  obtain ⟨a, ha⟩ : ∃ a, 1 + clen K i = a := ⟨_, rfl⟩
  obtain ⟨b, hb⟩ : ∃ b, 1 + clen K (i + 1) = b := ⟨_, rfl⟩
  have hab : a ≤ b ∧ b ≤ s.size := by omega
  have HA := Lib.hid ha
  rw [ha] at hbi hex
  rw [hb] at hbi hex hend
  have HBI := Lib.hid hbi
  have HEX2 := Lib.hid hex
  clear hbe hex hk2 hbi hs hsz hmono hcs hb ha hT h64 hK
  go_enter Tryz.func45, Tryz.ntmps45
  go_wp2_with fail
  go_loopg [5, 6] i (fun g a k wr => ∃ m : Nat, m ≤ i ∧ g = i - m ∧ a = .int .i64 (1 + clen K m : Nat) ∧ k = .int .i64 m ∧ wr = w)
  case atStart => exact ⟨0, by omega, rfl, rfl, rfl, rfl⟩
  case round =>
    obtain ⟨m, hm, rfl, rfl, rfl, rfl⟩ := hrel
    by_cases hlt : m < i
    · have hmK : m < K.length := Nat.lt_trans hlt hl
      obtain ⟨y, hy⟩ : ∃ y, K[m]? = some y := ⟨K[m]'hmK, List.getElem?_eq_getElem hmK⟩
      clear hmK
      have HM := Lib.hid (HBE.out m y hy)
      clear hy
      obtain ⟨cm, hcm⟩ : ∃ x, 1 + clen K m = x := ⟨_, rfl⟩
      obtain ⟨cm1, hcm1⟩ : ∃ x, 1 + clen K (m + 1) = x := ⟨_, rfl⟩
      rw [hcm, hcm1] at HM
      rw [hcm]
      have HC1 := Lib.hid hcm1
      clear hcm hcm1
      go_wp2_with fail
      (refine (HM.out _).mono ?_); rintro ev w1 ⟨rfl, rfl⟩
      go_wp2_with fail
      go_roundg (i - (m + 1))
      case measure => omega
      case rel => exact ⟨m + 1, by omega, rfl, by rw [HC1.out], by go_num, rfl⟩
    · obtain rfl : m = i := by omega
      rw [HA.out]
      have ha0 : (0 : Int) ≤ (a : Int) := by omega
      have hab1 : a ≤ b := hab.1
      have hab2 : b ≤ s.size := hab.2
      go_wp2_with fail
      (refine (HBI.out _).mono ?_); rintro ev w1 ⟨rfl, rfl⟩
      go_wp2_with fail
      go_ret
      exact ⟨by rw [← HEX2.out]; rfl, rfl⟩

/-- A head's ground, as letters. -/
def grL (c : UInt8) (n : Nat) : List UInt8 := c :: List.replicate n 63
set_option maxRecDepth 100000 in
set_option maxHeartbeats 1000000 in
theorem ground04_any (c : UInt8) (n : Nat) (w : World) (hn : n ≤ 2) (hp : ∀ W, Calls Tryz.prog 58 #[.int .u8 (c.toNat : Int)] W fun e w' => e = .returned (.int .i64 (n : Nat)) ∧ W = w') :
    Calls Tryz.prog 46 #[.int .u8 (c.toNat : Int)] w fun e w' => e = .returned (.string (bs (grL c n))) ∧ Below w.heap.size w w' := by
  have hcv := run_convert_bytes_back (P := Tryz.prog) (w.alloc (.cells #[.int .u8 (c.toNat : Int)] 5)) 121 9 5 ⟨w.heap.size, 0, none⟩ 1 [c] Tryz.underlying121 Tryz.underlying5 Tryz.underlying9 (fun j hj => by
    have : j = 0 := by simpa using hj
    subst this
    exact World.cell?_alloc_new w #[.int .u8 (c.toNat : Int)] 5 0)
  have hcv2 : (convert 121 9 (.slice (some ⟨w.heap.size, 0, none⟩) 1 1)).run Tryz.prog (w.alloc (.cells #[.int .u8 (c.toNat : Int)] 5)) = .ok (.string (bs (grL c 0))) (w.alloc (.cells #[.int .u8 (c.toNat : Int)] 5)) := hcv
  clear hcv
  have hcat : ∀ k, bs (grL c k) ++ (⟨#[63]⟩ : ByteArray) = bs (grL c (k + 1)) := fun k => by
    apply ByteArray.ext
    apply Array.toList_inj.1
    simp only [ByteArray.data_append, Array.toList_append, bs_list, bs, grL, List.replicate_succ', List.cons_append]
  have hsz : ∀ k, (bs (grL c k)).size = k + 1 := fun k => by rw [bs_size]; simp [grL]
  have HCAT := Lib.hid hcat
  have HSZ := Lib.hid hsz
  have HP := Lib.hid hp
  have hn1 : n ≤ 1000 := by omega
  clear hp hcat hsz
  go_enter Tryz.func46, Tryz.ntmps46
  go_wp2_with fail
  go_loopg [3, 4] n (fun g s i wr => ∃ k : Nat, k ≤ n ∧ g = n - k ∧ s = .string (bs (grL c k)) ∧ i = .int .i64 k ∧ Below w.heap.size w wr)
  case atStart => exact ⟨0, by omega, rfl, rfl, rfl, bal b0 _⟩
  case round =>
    obtain ⟨k, hk, rfl, rfl, rfl, hb⟩ := hrel
    have HB := Lib.hid hb
    clear hb
    have hc2 := HCAT.out k
    have hz := HSZ.out k
    obtain ⟨S0, hS0⟩ : ∃ x, bs (grL c k) = x := ⟨_, rfl⟩
    rw [hS0] at hc2 hz ⊢
    have hz2 : S0.size ≤ 1001 := by omega
    have HC2 := Lib.hid hc2
    have HS0 := Lib.hid hS0
    clear hc2 hz hS0
    by_cases hlt : k < n
    · go_wp2_with fail
      (refine (HP.out _).mono ?_); rintro ev w1 ⟨rfl, rfl⟩
      go_wp2_with fail
      go_roundg (n - (k + 1))
      case measure => omega
      case rel => exact ⟨k + 1, by omega, rfl, by rw [← HC2.out], by go_num, HB.out⟩
    · obtain rfl : k = n := by omega
      go_wp2_with fail
      (refine (HP.out _).mono ?_); rintro ev w1 ⟨rfl, rfl⟩
      go_wp2_with fail
      go_ret
      exact ⟨by rw [HS0.out]; rfl, HB.out⟩
end Go.Proofs.YtmagljnlfponaaaGreat.T

/- Rg -/
namespace Go.Proofs.YtmagljnlfponaaaGreat.B
open Go.RowKit

theorem rg1 {α : Type} {l : List α} {i : Nat} {a : α} : l.toArray.setIfInBounds i a = (l.set i a).toArray := by simp
theorem rg2 {α : Type} {a b : α} {l : List α} : (a :: l).set 0 b = b :: l := rfl
theorem rg3 {α : Type} {a b : α} {l : List α} {n : Nat} : (a :: l).set (n + 1) b = a :: l.set n b := rfl
section
variable {P : Program} {ops : Array Oper} {Q : Exit → Act → World → Prop} {md : Region.Mode} {S : World → Prop} {op : Op} {ty : TypeId} {pos : String} {af : Array Edge} {gd : Option (Nat × Bool)} {v : Value} {fuel : Nat} {listed : Array Bool} {a : Act} {w : World}
/-- Number i is taken first: it is wanted. -/
theorem rgt (i d : Nat) (hi : ops[i]? = some ⟨some d, op, ty, pos, af, gd⟩) (hw : Region.wanted ⟨some d, op, ty, pos, af, gd⟩ (yielded ops a.tmps) = true) (hS : S w)
    (h : wpAnyH P md ops Q S fuel (listed.setIfInBounds i true) (a.put (some d) v) w)
    (hy : ∀ w, S w → (execOp a.eval ⟨some d, op, ty, pos, af, gd⟩).run P w = .ok (.value v) w := by (intro wq hq; (try dsimp only at hq); go_simp; try with_reducible rfl))
    (hs : Region.noSelect ops = true := by kernel_rfl) (hf : Region.free md ops listed i = true := by kernel_rfl) (hr : (Region.ready md ops listed).contains i = true := by kernel_rfl)
    (hQ : ∀ c a w, Q (.panic c) (a.put (some d) v) w → Q (.panic c) a w := by exact fun _ _ _ h => h) : wpAnyH P md ops Q S (fuel + 1) listed a w :=
  wpAnyH_take hi hs hf hr hQ (.inl ⟨hw, hy⟩) hS h
/-- Number i is taken first: it is not wanted. -/
theorem rgn (i d : Nat) (hi : ops[i]? = some ⟨some d, op, ty, pos, af, gd⟩) (hw : Region.wanted ⟨some d, op, ty, pos, af, gd⟩ (yielded ops a.tmps) = false) (hS : S w)
    (h : wpAnyH P md ops Q S fuel (listed.setIfInBounds i true) (a.put (some d) undef) w)
    (hs : Region.noSelect ops = true := by kernel_rfl) (hf : Region.free md ops listed i = true := by kernel_rfl) (hr : (Region.ready md ops listed).contains i = true := by kernel_rfl)
    (hQ : ∀ c a w, Q (.panic c) (a.put (some d) undef) w → Q (.panic c) a w := by exact fun _ _ _ h => h) : wpAnyH P md ops Q S (fuel + 1) listed a w :=
  wpAnyH_take hi hs hf hr hQ (.inr ⟨hw, rfl⟩) hS h
/-- Number i alone comes up. -/
theorem rgc (i : Nat) (d : Option Nat) (hi : ops[i]? = some ⟨d, op, ty, pos, af, gd⟩)
    (h : ∀ K' : Act → World → Prop, Shut (∀ a w, S w → (S w → wpAnyH P md ops Q S fuel (listed.setIfInBounds i true) a w) → K' a w) → if Region.wanted ⟨d, op, ty, pos, af, gd⟩ (yielded ops a.tmps) = true then Oper.wp P ⟨d, op, ty, pos, af, gd⟩ a w K' Q else K' (a.put d undef) w)
    (hr : Region.ready md ops listed = [i] := by kernel_rfl) : wpAnyH P md ops Q S (fuel + 1) listed a w :=
  wpAnyH_ready hr (by simp) (AllReadyH.cons hi h AllReadyH.nil)
end
end Go.Proofs.YtmagljnlfponaaaGreat.B

/- RtA -/
namespace Go.Proofs.YtmagljnlfponaaaGreat.R
open Go.RowKit Go.Proofs.YtmagljnlfponaaaGreat.B Go.Proofs.YtmagljnlfponaaaGreat.T Go.Proofs.YtmagljnlfponaaaGreat.K
set_option linter.unusedVariables false
set_option linter.unusedSimpArgs false

set_option maxRecDepth 100000 in
theorem kidsR_any (k : Int) (w : World) : Calls Tryz.prog 82 #[.int .i8 k] w fun e w' => e = .returned (.int .i64 (arK k)) ∧ w = w' := by
  by_cases h : k = 1 ∨ k = 2 ∨ k = 3 ∨ k = 4 ∨ k = 5 ∨ k = 6 ∨ k = 16 ∨ k = 17 ∨ k = 19 ∨ k = 20 ∨ k = 22 ∨ k = 23 ∨ k = 24 ∨ k = 26 ∨ k = 27 ∨ k = 30 ∨ k = 7 ∨ k = 8 ∨ k = 10 ∨ k = 11 ∨ k = 12 ∨ k = 13 ∨ k = 14 ∨ k = 15 ∨ k = 18 ∨ k = 25 ∨ k = 28 ∨ k = 9 ∨ k = 21
  · rcases h with rfl | rfl | rfl | rfl | rfl | rfl | rfl | rfl | rfl | rfl | rfl | rfl | rfl | rfl | rfl | rfl | rfl | rfl | rfl | rfl | rfl | rfl | rfl | rfl | rfl | rfl | rfl | rfl | rfl
    all_goals
      go_enter Tryz.func82, Tryz.ntmps82
      go_wp2_with fail
      go_ret
      exact ⟨rfl, rfl⟩
  · have e : arK k = -2 := by
      unfold arK
      rw [if_neg (by omega), if_neg (by omega), if_neg (by omega), if_neg (by omega), if_neg (by omega)]
    rw [e]
    simp only [not_or] at h
    obtain ⟨h1, h2, h3, h4, h5, h6, h16, h17, h19, h20, h22, h23, h24, h26, h27, h30, h7, h8, h10, h11, h12, h13, h14, h15, h18, h25, h28, h9, h21⟩ := h
    clear e
    go_enter Tryz.func82, Tryz.ntmps82
    go_wp2_with fail
    go_ret
    exact ⟨rfl, rfl⟩

/-- The walk's block. -/
abbrev Wk (w : World) (wb : Nat) (A : Option Addr) (N c : Nat) (a e nd : Int) (al : Value) : Prop := Blk w wb 108 #[.slice A N c, .int .i64 a, .int .i64 e, .int .i64 nd, al]
theorem Wk.cells {w : World} {wb : Nat} {A : Option Addr} {N c : Nat} {a e nd : Int} {al : Value} (h : Wk w wb A N c a e nd al) :
    w.cell? ⟨wb, 0, none⟩ = some (.slice A N c) ∧ w.cell? ⟨wb, 1, none⟩ = some (.int .i64 a) ∧ w.cell? ⟨wb, 2, none⟩ = some (.int .i64 e) ∧ w.cell? ⟨wb, 3, none⟩ = some (.int .i64 nd) ∧ w.cell? ⟨wb, 4, none⟩ = some al :=
  ⟨(h.cell 0).trans rfl, (h.cell 1).trans rfl, (h.cell 2).trans rfl, (h.cell 3).trans rfl, (h.cell 4).trans rfl⟩
theorem Wk.at_ {w : World} {wb : Nat} {A : Option Addr} {N c : Nat} {a e nd : Int} {al : Value} (h : Wk w wb A N c a e nd al) (a2 : Int) : Wk (w.setCell ⟨wb, 1, none⟩ (.int .i64 a2)) wb A N c a2 e nd al := Blk.set_ h 1 (.int .i64 a2)

/-- Behind fail: the first error counts. -/
def FailQ (E x : Int) (wb : Nat) (A : Option Addr) (N c : Nat) (a e nd : Int) (al : Value) (w : World) (en : Ending) (w' : World) : Prop :=
  en = .returned (.tuple #[]) ∧ Bt wb w w' ∧ Wk w' wb A N c a (if e = 0 then E else e) (if e = 0 then x else nd) al
theorem fail_any (E x : Int) (wb : Nat) (A : Option Addr) (N c : Nat) (a e nd : Int) (al : Value) (w : World) (h : Wk w wb A N c a e nd al) :
    Calls Tryz.prog 60 #[.pointer (some ⟨wb, 0, none⟩), .int .i64 E, .int .i64 x] w fun en w' => FailQ E x wb A N c a e nd al w en w' := by
  obtain ⟨c0, c1, c2, c3, c4⟩ := h.cells
  have f2 := h.frozen 2
  have f3 := h.frozen 3
  have H := Lib.hid h
  clear h c0 c1 c4
  unfold FailQ
  by_cases he : e = 0
  · subst he
    go_enter Tryz.func60, Tryz.ntmps60
    go_wp2_with fail
    go_end0
    exact ⟨rfl, Bt.set_ (Bt.set_ (But.refl _ _) 2 _) 3 _, (H.out.set_ 2 (.int .i64 E)).set_ 3 (.int .i64 x)⟩
  · rw [if_neg he, if_neg he]
    have e1 : (e == 0) = false := by simpa using he
    clear he
    go_enter Tryz.func60, Tryz.ntmps60
    go_wp2_with fail
    go_end0
    exact ⟨rfl, But.refl _ _, H.out⟩
theorem fail_new (E x : Int) (wb : Nat) (A : Option Addr) (N c : Nat) (a nd : Int) (al : Value) (w : World) (h : Wk w wb A N c a 0 nd al) :
    Calls Tryz.prog 60 #[.pointer (some ⟨wb, 0, none⟩), .int .i64 E, .int .i64 x] w fun en w' => en = .returned (.tuple #[]) ∧ Bt wb w w' ∧ Wk w' wb A N c a E x al := by
  have h1 := fail_any E x wb A N c a 0 nd al w h
  unfold FailQ at h1
  rw [if_pos rfl, if_pos rfl] at h1
  exact h1
theorem want_any (is : Bool) (x : Int) (wb : Nat) (A : Option Addr) (N c : Nat) (a e nd : Int) (al : Value) (w : World) (h : Wk w wb A N c a e nd al) :
    Calls Tryz.prog 86 #[.pointer (some ⟨wb, 0, none⟩), .bool is, .int .i64 x] w fun en w' => en = .returned (.tuple #[]) ∧ Bt wb w w' ∧ Wk w' wb A N c a (if is = true then e else if e = 0 then 23 else e) (if is = true then nd else if e = 0 then x else nd) al := by
  have hf := fail_any 23 x wb A N c a e nd al w h
  unfold FailQ at hf
  obtain ⟨e1, he1⟩ : ∃ y, (if e = 0 then (23 : Int) else e) = y := ⟨_, rfl⟩
  obtain ⟨d1, hd1⟩ : ∃ y, (if e = 0 then x else nd) = y := ⟨_, rfl⟩
  rw [he1, hd1] at hf ⊢
  clear he1 hd1
  have HF := Lib.hid hf
  have H := Lib.hid h
  clear hf h
  cases is
  · go_enter Tryz.func86, Tryz.ntmps86
    go_wp2_with fail
    (refine HF.out.mono ?_); rintro en w1 ⟨rfl, h1, h2⟩
    have H1 := Lib.hid (And.intro h1 h2)
    clear h1 h2
    go_wp2_with fail
    go_end0
    exact ⟨rfl, by simpa using H1.out⟩
  · go_enter Tryz.func86, Tryz.ntmps86
    go_wp2_with fail
    go_end0
    exact ⟨rfl, But.refl _ _, H.out⟩
theorem madeR_any (s : ByteArray) (x : Int) (wb : Nat) (A : Option Addr) (N c : Nat) (a e nd : Int) (al : Value) (w : World) (h : Wk w wb A N c a e nd al) :
    Calls Tryz.prog 99 #[.pointer (some ⟨wb, 0, none⟩), .string s, .int .i64 x] w fun en w' => en = .returned (.string s) ∧ Bt wb w w' ∧ Wk w' wb A N c a (if s.size ≤ 64 then e else if e = 0 then 21 else e) (if s.size ≤ 64 then nd else if e = 0 then x else nd) al := by
  have hf := fail_any 21 x wb A N c a e nd al w h
  unfold FailQ at hf
  obtain ⟨e1, he1⟩ : ∃ y, (if e = 0 then (21 : Int) else e) = y := ⟨_, rfl⟩
  obtain ⟨d1, hd1⟩ : ∃ y, (if e = 0 then x else nd) = y := ⟨_, rfl⟩
  rw [he1, hd1] at hf ⊢
  clear he1 hd1
  have HF := Lib.hid hf
  have H := Lib.hid h
  clear hf h
  by_cases h64 : s.size ≤ 64
  · rw [if_pos h64, if_pos h64]
    have h1 : decide ((64 : Int) < (s.size : Int)) = false := by simp; omega
    clear h64
    go_enter Tryz.func99, Tryz.ntmps99
    go_wp2_with fail
    go_ret
    exact ⟨rfl, But.refl _ _, H.out⟩
  · rw [if_neg h64, if_neg h64]
    have h1 : decide ((64 : Int) < (s.size : Int)) = true := by simp; omega
    clear h64
    go_enter Tryz.func99, Tryz.ntmps99
    go_wp2_with fail
    (refine HF.out.mono ?_); rintro en w1 ⟨rfl, h1', h2⟩
    have H1 := Lib.hid (And.intro h1' h2)
    clear h1' h2
    go_wp2_with fail
    go_ret
    exact ⟨rfl, H1.out⟩
end Go.Proofs.YtmagljnlfponaaaGreat.R

/- RtC -/
namespace Go.Proofs.YtmagljnlfponaaaGreat.R
open Go.RowKit Go.Proofs.YtmagljnlfponaaaGreat.B Go.Proofs.YtmagljnlfponaaaGreat.T Go.Proofs.YtmagljnlfponaaaGreat.K
set_option linter.unusedVariables false
set_option linter.unusedSimpArgs false

theorem b63 : (63 : Int) = ((63 : UInt8).toNat : Int) := rfl
theorem partsR_any (c : Int) (w : World) : Calls Tryz.prog 58 #[.int .u8 c] w fun e w' => e = .returned (.int .i64 (if c = 62 ∨ c = 44 then 2 else if c = 108 ∨ c = 120 then 1 else 0 : Nat)) ∧ w = w' := by
  go_enter Tryz.func58, Tryz.ntmps58
  go_wp2
  all_goals
    go_ret
    refine ⟨?_, rfl⟩
    simp_all
theorem partsK_any (S : Ty) (hS : S.ok) (w : World) : Calls Tryz.prog 58 #[.int .u8 S.head.toNat] w fun e w' => e = .returned (.int .i64 (S.kids.length : Nat)) ∧ w = w' := by
  refine (partsR_any _ w).mono ?_
  rintro e w' ⟨rfl, rfl⟩
  refine ⟨?_, rfl⟩
  have h := Ty.ar_head hS
  unfold arB ar at h
  congr 2
  have h2 : ∀ c : Int, (S.head.toNat : Int) = c ↔ (S.head.toNat : Int) = c := fun _ => Iff.rfl
  generalize (S.head.toNat : Int) = c at *
  generalize S.kids.length = n at *
  split at h
  · rename_i h1
    rw [if_neg (by omega), if_neg (by omega)]; omega
  · split at h
    · rename_i h1
      rw [if_neg (by omega), if_pos (by omega)]; omega
    · split at h
      · rename_i h1
        rw [if_pos (by omega)]; omega
      · omega

set_option maxRecDepth 100000 in
theorem consR_any : ∀ (n : Nat) (S T : Ty) (w : World), S.code.length ≤ n → S.ok → T.ok → S.code.length ≤ 64 → T.code.length ≤ 64 →
    Calls Tryz.prog 98 #[.string (str S), .string (str T)] w fun e w' => e = .returned (.bool (allT askC S T)) ∧ Below w.heap.size w w'
  | 0, S, T, w, hn, hS, hT, h1, h2 => by have := S.code_pos; omega
  | n + 1, S, T, w, hn, hS, hT, h1, h2 => by
    have hp := fun W => partsK_any S hS W
    have hPS : ∀ i x, S.kids[i]? = some x → ∀ W, _ := fun i x hx W => part04_any S i x W hS h1 hx
    have hPT : ∀ i x, T.kids[i]? = some x → ∀ W, _ := fun i x hx W => part04_any T i x W hT h2 hx
    have hrec : ∀ i x y, S.kids[i]? = some x → T.kids[i]? = some y → ∀ W, Calls Tryz.prog 98 #[.string (str x), .string (str y)] W fun e w' => e = .returned (.bool (allT askC x y)) ∧ Below W.heap.size W w' := fun i x y hx hy W => by
      have mx := List.mem_of_getElem? hx
      have my := List.mem_of_getElem? hy
      have := Ty.kid_code mx
      have := Ty.kid_code my
      exact consR_any n x y W (by omega) (Ty.kids_ok hS mx) (Ty.kids_ok hT my) (by omega) (by omega)
    have hall := allT_kids hS hT askC_asks
    have hkl := S.kids_le
    obtain ⟨p1, e1⟩ := str_head S
    obtain ⟨p2, e2⟩ := str_head T
    have HREC := Lib.hid hrec
    have HPS := Lib.hid hPS
    have HPT := Lib.hid hPT
    have HP := Lib.hid hp
    clear hrec hPS hPT hp
    by_cases q1 : S.head = 63
    · have r1 : allT askC S T = true := by rw [hall]; simp [askC, q1]
      rw [r1]
      have b1 : ((S.head.toNat : Int) == 63) = true := by rw [q1]; rfl
      clear q1 r1 hall HREC HPS HPT HP hS hT h1 h2 hn hkl
      generalize S.head = a at *
      generalize T.head = b at *
      generalize str S = s at *
      generalize str T = t at *
      go_enter Tryz.func98, Tryz.ntmps98
      go_wp2_with fail
      go_ret
      exact ⟨rfl, Below.refl _ _⟩
    have b1 : ((S.head.toNat : Int) == 63) = false := by rw [b63, byte_eq]; simpa using q1
    by_cases q2 : T.head = 63
    · have r1 : allT askC S T = true := by rw [hall]; simp [askC, q2]
      rw [r1]
      have b2 : ((T.head.toNat : Int) == 63) = true := by rw [q2]; rfl
      clear q1 q2 r1 hall HREC HPS HPT HP hS hT h1 h2 hn hkl
      generalize S.head = a at *
      generalize T.head = b at *
      generalize str S = s at *
      generalize str T = t at *
      go_enter Tryz.func98, Tryz.ntmps98
      go_wp2_with fail
      go_ret
      exact ⟨rfl, Below.refl _ _⟩
    have b2 : ((T.head.toNat : Int) == 63) = false := by rw [b63, byte_eq]; simpa using q2
    by_cases q3 : S.head = T.head
    · have b3 : ((S.head.toNat : Int) != (T.head.toNat : Int)) = false := by rw [q3]; simp
      have hkk := kids_len hS hT q3
      have r1 : allT askC S T = (S.kids.zip T.kids).all fun p => allT askC p.1 p.2 := by rw [hall, if_neg (by simp [askC, q1, q2, q3])]
      rw [r1]
      obtain ⟨R, hR⟩ : ∃ R, ((S.kids.zip T.kids).all fun p => allT askC p.1 p.2) = R := ⟨_, rfl⟩
      have hRt : (∀ m x y, m < S.kids.length → S.kids[m]? = some x → T.kids[m]? = some y → allT askC x y = true) → R = true := fun h => by rw [← hR]; exact zip_all hkk _ h
      have hRf : ∀ m x y, S.kids[m]? = some x → T.kids[m]? = some y → allT askC x y = false → R = false := fun m x y hx hy h => by rw [← hR]; exact zip_not _ hx hy h
      rw [hR]
      have HRT := Lib.hid hRt
      have HRF := Lib.hid hRf
      clear q1 q2 r1 hall hS hT h1 h2 hn hR hRt hRf
      generalize S.kids = K at *
      generalize T.kids = K2 at *
      obtain ⟨M, hM⟩ : ∃ M, K.length = M := ⟨_, rfl⟩
      rw [hM] at HRT HP hkk hkl
      have HM := Lib.hid (And.intro hM hkk)
      clear hM hkk
      rw [← q3] at e2
      rw [← q3] at b3 b2
      generalize S.head = a at *
      clear q3
      generalize str S = s at *
      generalize str T = t at *
      go_enter Tryz.func98, Tryz.ntmps98
      go_wp2_with fail
      go_region
      go_wp2_with fail
      go_loopg [5] M (fun g i wr => ∃ m : Nat, m ≤ M ∧ g = M - m ∧ i = .int .i64 m ∧ Below w.heap.size w wr ∧ Hid (∀ j x y, j < m → K[j]? = some x → K2[j]? = some y → allT askC x y = true))
      case atStart => exact ⟨0, by omega, rfl, rfl, bdr (Below.refl _ _) 1, Lib.hid (fun j x y hj => by omega)⟩
      case round =>
        obtain ⟨m, hm, rfl, rfl, hbr, hd⟩ := hrel
        have HBR := Lib.hid hbr
        clear hbr
        by_cases hlt : m < M
        · obtain ⟨hM, hkk⟩ := HM.out
          obtain ⟨x, hx⟩ : ∃ x, K[m]? = some x := ⟨K[m]'(by omega), List.getElem?_eq_getElem (by omega)⟩
          obtain ⟨y, hy⟩ : ∃ y, K2[m]? = some y := ⟨K2[m]'(by omega), List.getElem?_eq_getElem (by omega)⟩
          have H1 := Lib.hid (HPS.out m x hx)
          have H2 := Lib.hid (HPT.out m y hy)
          have H3 := Lib.hid (HREC.out m x y hx hy)
          have hg : ∀ j x y, j < m + 1 → K[j]? = some x → K2[j]? = some y → (allT askC x y = true) ∨ j = m := fun j x y hj h3 h4 => by
            by_cases hjm : j = m
            · exact .inr hjm
            · exact .inl (hd.out j x y (by omega) h3 h4)
          have HF := Lib.hid (fun h => HRF.out m x y hx hy h)
          have HG := Lib.hid (And.intro hx (And.intro hy hg))
          obtain ⟨bb, hbb⟩ : ∃ bb, allT askC x y = bb := ⟨_, rfl⟩
          rw [hbb] at H3 HF
          have HB := Lib.hid hbb
          clear hM hkk hx hy hg hd hbb
          cases bb
          · have hRR := HF.out rfl
            subst hRR
            go_wp2_with fail
            (refine (HP.out _).mono ?_); rintro e w' ⟨rfl, rfl⟩
            go_wp2_with fail
            (refine (H1.out _).mono ?_); rintro e w' ⟨rfl, rfl⟩
            go_wp2_with fail
            (refine (H2.out _).mono ?_); rintro e w' ⟨rfl, rfl⟩
            go_wp2_with fail
            (refine (H3.out _).mono ?_); rintro e w3 ⟨rfl, hb3⟩
            have HB3 := Lib.hid (bl HBR.out hb3)
            clear hb3
            go_wp2_with fail
            go_ret
            exact ⟨rfl, HB3.out⟩
          · go_wp2_with fail
            (refine (HP.out _).mono ?_); rintro e w' ⟨rfl, rfl⟩
            go_wp2_with fail
            (refine (H1.out _).mono ?_); rintro e w' ⟨rfl, rfl⟩
            go_wp2_with fail
            (refine (H2.out _).mono ?_); rintro e w' ⟨rfl, rfl⟩
            go_wp2_with fail
            (refine (H3.out _).mono ?_); rintro e w3 ⟨rfl, hb3⟩
            have HB3 := Lib.hid (bl HBR.out hb3)
            clear hb3
            go_wp2_with fail
            go_roundg (M - (m + 1))
            case measure => omega
            case rel => exact ⟨m + 1, by omega, rfl, by go_num, HB3.out, Lib.hid (fun j x' y' hj h3 h4 => by
              rcases HG.out.2.2 j x' y' hj h3 h4 with h | rfl
              · exact h
              · have ex : x' = _ := Option.some.inj (h3.symm.trans HG.out.1)
                have ey : y' = _ := Option.some.inj (h4.symm.trans HG.out.2.1)
                rw [ex, ey]; exact HB.out)⟩
        · obtain rfl : m = M := by omega
          have hRR := HRT.out (fun j x y hj h3 h4 => hd.out j x y hj h3 h4)
          subst hRR
          clear hd
          go_wp2_with fail
          (refine (HP.out _).mono ?_); rintro e w' ⟨rfl, rfl⟩
          go_wp2_with fail
          go_ret
          exact ⟨rfl, HBR.out⟩
    · have r1 : allT askC S T = false := by rw [hall]; simp [askC, q1, q2, q3]
      have b3 : ((S.head.toNat : Int) != (T.head.toNat : Int)) = true := by rw [bne, byte_eq]; simpa using q3
      rw [r1]
      clear q1 q2 q3 r1 hall HREC HPS HPT HP hS hT h1 h2 hn hkl
      generalize S.head = a at *
      generalize T.head = b at *
      generalize str S = s at *
      generalize str T = t at *
      go_enter Tryz.func98, Tryz.ntmps98
      go_wp2_with fail
      go_region
      go_wp2_with fail
      go_ret
      exact ⟨rfl, bdr (Below.refl _ _) 1⟩
end Go.Proofs.YtmagljnlfponaaaGreat.R
