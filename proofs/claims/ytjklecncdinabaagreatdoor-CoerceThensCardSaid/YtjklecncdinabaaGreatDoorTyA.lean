/- Contracts of package types (and of its answer): arity, skip, Check, is. (printed by cutref.py out of XTypA.) -/
import Derived.Test.YtjklecncdinabaaGreatDoorProg
import Derived.Test.YtjklecncdinabaaGreatDoorBase
import Derived.Test.YtjklecncdinabaaGreatDoorTy
import Derived.WalkLawsBesides
import Derived.WalkSpells
import Derived.Deep.QuietTactic
import Derived.BigQuiet
namespace Go.Proofs.YtjklecncdinabaaGreatDoor.T
open Go.RowKit Go.Proofs.YtjklecncdinabaaGreatDoor.B
set_option linter.unusedSimpArgs false
set_option linter.unusedVariables false

theorem retI {a b : Int} (h : a = b) : Ending.returned (.int .i64 a) = .returned (.int .i64 b) := by rw [h]
theorem retV {v v' : Value} (h : v = v') : Ending.returned v = .returned v' := by rw [h]

theorem arity_any (c : Int) (w : World) : Calls Tryz.prog 83 #[.int .u8 c] w fun e w' => e = .returned (.int .i64 (ar c)) ∧ w = w' := by
  go_enter Tryz.func83, Tryz.ntmps83
  go_wp2
  all_goals
    go_ret
    refine ⟨retI ?_, rfl⟩
    simp_all [ar]

theorem drop_byte (s : ByteArray) (k : Nat) (h : k < s.size) : s.data.toList.drop k = s[k] :: s.data.toList.drop (k + 1) := by
  rw [List.drop_eq_getElem_cons (by simpa using h)]; rfl
theorem drop_end (s : ByteArray) (k : Nat) (h : s.size ≤ k) : s.data.toList.drop k = [] := List.drop_eq_nil_of_le (by simpa using h)

theorem skip_any (s : ByteArray) (p : Nat) (w : World) (hp : p ≤ s.size) (hs : s.size ≤ 4611686018427387904) :
    Calls Tryz.prog 78 #[.string s, .int .i64 p] w fun e w' => e = .returned (.tuple #[.int .i64 (p + (skipN (s.data.toList.drop p) 1).1 : Nat), .bool (skipN (s.data.toList.drop p) 1).2]) ∧ w = w' := by
  obtain ⟨R, hR⟩ : ∃ R, skipN (s.data.toList.drop p) 1 = R := ⟨_, rfl⟩
  rw [hR]
  have HR : Hid (skipN (s.data.toList.drop p) 1 = R) := hR
  clear hR
  go_enter Tryz.func78, Tryz.ntmps78
  go_wp2_with fail
  go_loop [1, 6] (fun a n => ∃ (k L : Nat), p + k ≤ s.size ∧ L ≤ k + 1 ∧ a = .int .i64 (p + k : Nat) ∧ n = .int .i64 L ∧ Hid (R = ((skipN (s.data.toList.drop (p + k)) L).1 + k, (skipN (s.data.toList.drop (p + k)) L).2))) (fun a _ => s.size - (intOf a).toNat)
  case atStart => exact ⟨0, 1, by omega, by omega, rfl, rfl, by rw [← HR.out]; exact rfl⟩
  case round =>
    obtain ⟨k, L, hk, hL, rfl, rfl, hr⟩ := hrel
    by_cases h0 : 0 < L
    · by_cases h1 : p + k < s.size
      · obtain ⟨c, hc⟩ : ∃ c, s[p + k] = c := ⟨_, rfl⟩
        obtain ⟨q, hq⟩ : ∃ q, arB c = q := ⟨_, rfl⟩
        have hq2 : ar c.toNat = q := hq
        have hlo := ar_lo c.toNat
        have ha := arity_any c.toNat w
        rw [hq2] at ha hlo
        have hd := drop_byte s (p + k) h1
        rw [hc] at hd
        rw [hd] at hr
        obtain ⟨L', rfl⟩ : ∃ L', L = L' + 1 := ⟨L - 1, by omega⟩
        by_cases hn : q < 0
        · have hR : R = (k, false) := by rw [hr.out]; simp [skipN, hq, hn]
          have HR3 := Lib.hid hR
          have HC := Lib.hid hc
          clear hr hd hc hq hq2 HR hR
          go_wp2_with (go_at_call 83; rw [HC.out]; refine ha.mono ?_; rintro e w' ⟨rfl, rfl⟩)
          go_ret2
          exact ⟨by rw [HR3.out]; simp, rfl⟩
        · have HR2 : Hid (R = ((skipN (s.data.toList.drop (p + (k + 1))) (L' + q.toNat)).1 + (k + 1), (skipN (s.data.toList.drop (p + (k + 1))) (L' + q.toNat)).2)) := by
            show R = _
            rw [hr.out]; simp only [skipN, hq, if_neg hn]; rw [show p + k + 1 = p + (k + 1) by omega]
            exact Prod.ext (by simp only; omega) rfl
          have HC := Lib.hid hc
          clear hr hd hc hq hq2 HR
          go_wp2_with (go_at_call 83; rw [HC.out]; refine ha.mono ?_; rintro e w' ⟨rfl, rfl⟩)
          go_round
          case rel => exact ⟨k + 1, L' + q.toNat, by omega, by omega, by go_num, by go_num, HR2⟩
          case measure => simp [intOf]; omega
      · have hR : R = (k, false) := by
          rw [hr.out, drop_end s (p + k) (by omega)]
          obtain ⟨L', rfl⟩ : ∃ L', L = L' + 1 := ⟨L - 1, by omega⟩
          simp [skipN]
        have HR3 := Lib.hid hR
        clear hr HR hR
        go_wp2_with fail
        go_ret2
        exact ⟨by rw [HR3.out]; simp, rfl⟩
    · have hR : R = (k, true) := by
        obtain rfl : L = 0 := by omega
        rw [hr.out]; simp [skipN]
      have HR3 := Lib.hid hR
      clear hr HR hR
      go_wp2_with fail
      go_ret2
      exact ⟨by rw [HR3.out]; simp, rfl⟩

/-- Check, whatever the text. -/
theorem check_any (s : ByteArray) (w : World) (hs : s.size ≤ 4611686018427387904) :
    Calls Tryz.prog 65 #[.string s] w fun e w' => e = .returned (.tuple #[.int .i64 (checkL s.data.toList).1, .int .i64 (checkL s.data.toList).2]) ∧ w = w' := by
  have hl : s.data.toList.length = s.size := by simp
  obtain ⟨R, hR⟩ : ∃ R, skipN s.data.toList 1 = R := ⟨_, rfl⟩
  have hk := skip_any s 0 w (by omega) hs
  rw [List.drop_zero, hR] at hk
  have hc : checkL s.data.toList = if 64 < s.size then (21, 64) else if R.2 = false ∨ R.1 < s.size then (20, R.1) else (0, 0) := by unfold checkL; rw [hR, hl]
  rw [hc]
  have hle := skipN_le s.data.toList 1
  rw [hR, hl] at hle
  obtain ⟨n, b⟩ := R
  simp only at hk hle ⊢
  clear hR hc
  by_cases h0 : 64 < s.size
  · go_enter Tryz.func65, Tryz.ntmps65
    go_wp2_with fail
    go_ret2
    simp [h0]
  · cases b
    · go_enter Tryz.func65, Tryz.ntmps65
      go_wp2_with (go_at_call 78; refine hk.mono ?_; rintro e w' ⟨rfl, rfl⟩)
      go_ret2
      simp [h0]
    · by_cases h1 : n < s.size
      · go_enter Tryz.func65, Tryz.ntmps65
        go_wp2_with (go_at_call 78; refine hk.mono ?_; rintro e w' ⟨rfl, rfl⟩)
        go_ret2
        simp [h0, h1]
      · go_enter Tryz.func65, Tryz.ntmps65
        go_wp2_with (go_at_call 78; refine hk.mono ?_; rintro e w' ⟨rfl, rfl⟩)
        go_ret2
        simp [h0, h1]


/-- Is it a type? -/
def isB (s : ByteArray) : Bool := (checkL s.data.toList).1 == 0

theorem is_any (s : ByteArray) (w : World) (hs : s.size ≤ 4611686018427387904) : Calls Tryz.prog 81 #[.string s] w fun e w' => e = .returned (.bool (isB s)) ∧ w = w' := by
  have hc := check_any s w hs
  unfold isB
  generalize checkL s.data.toList = R at *
  obtain ⟨a, b⟩ := R
  simp only at hc ⊢
  go_enter Tryz.func81, Tryz.ntmps81
  go_wp2_with (go_at_call 65; refine hc.mono ?_; rintro e w' ⟨rfl, rfl⟩)
  go_ret
  exact ⟨retV (congrArg Value.bool (by rw [Bool.eq_iff_iff]; simp)), rfl⟩
end Go.Proofs.YtjklecncdinabaaGreatDoor.T
