/- Parts of this claim: AnC, AnD, CdX, CeV. -/
import Derived.Lib.Split
import Derived.Laws.Rows
import Derived.Laws.Tables
import Derived.Test.YtobplngonkdbpaaGreatDoorP10
import Derived.Test.YtobplngonkdbpaaGreatDoorP01
import Derived.Test.YtobplngonkdbpaaGreatDoorP09
import Derived.Test.YtobplngonkdbpaaGreatDoorP06
set_option linter.unusedVariables false
set_option linter.unusedSimpArgs false
/- AnC -/
namespace Go.Proofs.YtobplngonkdbpaaGreatDoor.D
open Go.RowKit
open Go.Proofs.YtobplngonkdbpaaGreatDoor.B
set_option linter.unusedVariables false
set_option linter.unusedSimpArgs false

/-- What a look at a number returns. -/
def NumA (v : Option Int) (w : World) (e : Ending) (w' : World) : Prop :=
  ∃ (z : Int) (g : Bool), e = .returned (.tuple #[.int .i64 z, .bool g]) ∧ inR z ∧ g = v.isSome ∧ (∀ t, v = some t → z = t) ∧ w = w'
theorem numA_none {v : Option Int} {w : World} (h : v = none) : NumA v w (.returned (.tuple #[.int .i64 0, .bool false])) w :=
  ⟨0, false, rfl, ⟨by omega, by omega⟩, (by rw [h]; rfl), (fun t ht => by rw [h] at ht; cases ht), rfl⟩
theorem numA_ok {v : Option Int} {z : Int} {g : Bool} {w : World} (hz : inR z) (hg : g = true → v = some z) (hn : g = false → v = none) : NumA v w (.returned (.tuple #[.int .i64 z, .bool g])) w := by
  refine ⟨z, g, rfl, hz, ?_, ?_, rfl⟩
  · cases g with
    | true => rw [hg rfl]; rfl
    | false => rw [hn rfl]; rfl
  · intro t ht
    cases g with
    | true => rw [hg rfl] at ht; injection ht
    | false => rw [hn rfl] at ht; cases ht
theorem digB_bad {m : Bool} {t : Bs} (h : t.length = 0 ∨ 19 < t.length ∨ (t.head? = some 48 ∧ (m = true ∨ 1 < t.length))) : digB m t = none := by
  unfold digB; rw [if_pos h]
def digK (m : Bool) : Option Nat → Option Int
  | none => none
  | some v => if m = true then (if v ≤ 9223372036854775808 then some (-(v : Int)) else none) else (if v < 9223372036854775808 then some (v : Int) else none)
theorem digB_val {m : Bool} {t : Bs} (h : ¬ (t.length = 0 ∨ 19 < t.length ∨ (t.head? = some 48 ∧ (m = true ∨ 1 < t.length)))) {d : Option Nat} (hd : valD t 0 = d) :
    digB m t = digK m d := by
  subst hd
  unfold digB digK
  rw [if_neg h]
  cases valD t 0 <;> rfl
theorem digK_t {v : Nat} (h : v ≤ 9223372036854775808) : digK true (some v) = some (-(v : Int)) := by unfold digK; simp [h]
theorem digK_tn {v : Nat} (h : ¬ v ≤ 9223372036854775808) : digK true (some v) = none := by unfold digK; simp; omega
theorem digK_f {v : Nat} (h : v < 9223372036854775808) : digK false (some v) = some (v : Int) := by unfold digK; simp [h]
theorem digK_fn {v : Nat} (h : ¬ v < 9223372036854775808) : digK false (some v) = none := by unfold digK; simp; omega
theorem inR_wrap (x : Int) : inR (wrap64 x) := by unfold inR wrap64; omega
theorem valD_cons {c : UInt8} {r : Bs} {v : Nat} : valD (c :: r) v = if 48 ≤ c.toNat ∧ c.toNat ≤ 57 then valD r (10 * v + (c.toNat - 48)) else none := rfl
theorem pow_le19 {k : Nat} (h : k ≤ 18) : 10 ^ k ≤ 1000000000000000000 := by
  have : (10 : Nat) ^ 18 = 1000000000000000000 := rfl
  rw [← this]; exact Nat.pow_le_pow_right (by omega) h
theorem pow_le20 {k : Nat} (h : k ≤ 19) : 10 ^ k ≤ 10000000000000000000 := by
  have : (10 : Nat) ^ 19 = 10000000000000000000 := rfl
  rw [← this]; exact Nat.pow_le_pow_right (by omega) h

set_option maxRecDepth 100000 in
set_option maxHeartbeats 4000000 in
theorem digits_any (s : Bs) (w : World) (hl : s.length ≤ 1073741824) :
    Calls Tryz.prog 168 #[strV s] w fun e w' => NumA (numV s) w e w' := by
  rw [← digA_eq]
  have hsz := str_size s
  rcases hs : s with _ | ⟨c0, r0⟩
  · have HB := Lib.hid (show digA [] = none by rfl)
    unfold strV
    go_enter Tryz.func168, Tryz.ntmps168
    go_wp2_with fail
    go_ret2
    exact numA_none HB.out
  have hx0 : s[0]? = some c0 := by rw [hs]; rfl
  have hls : s.length = r0.length + 1 := by rw [hs]; rfl
  have hk0 : 0 < (⟨s.toArray⟩ : ByteArray).size := by rw [hsz]; omega
  have at0 := str_at hx0 hk0
  rw [hls] at hsz
  have h0c := c0.toNat_lt
  rw [← hs]
  by_cases h45 : c0 = 45
  · subst h45
    have HD := Lib.hid (show digA s = digB true r0 by rw [hs]; rfl)
    have e45 : (((45 : UInt8).toNat : Int) == 45) = true := by decide
    have hext := ext_at s 1 (r0.length + 1)
    rw [show (s.drop 1).take (r0.length + 1 - 1) = r0 by rw [hs]; simp] at hext
    have hst := str_size r0
    have HTL := Lib.hid (show r0.length ≤ 1073741824 by omega)
    have l1 : (1 : Int) ≤ (r0.length : Int) + 1 := by omega
    clear hs hx0 hls
    unfold strV
    go_enter Tryz.func168, Tryz.ntmps168
    go_upto_region 4 with fail
    clear hext at0 hk0 hsz e45 h0c
    have hbad := digB_bad (m := true) (t := r0)
    have hl19 : r0.length ≤ 1073741824 := by have := HTL.out; omega
    rcases ht : r0 with _ | ⟨c, r⟩
    · subst ht
      have HB := Lib.hid (hbad (.inl rfl))
      clear hbad
      go_wp2_with fail
      go_ret2
      exact numA_none (HD.out.trans HB.out)
    have hc : r0.head? = some c := by rw [ht]; rfl
    have h0 : 0 < r0.length := by rw [ht]; simp
    have hx0 : r0[0]? = some c := by rw [ht]; rfl
    have hk0 : 0 < (⟨r0.toArray⟩ : ByteArray).size := by rw [hst]; exact h0
    have at0 := str_at hx0 hk0
    have hc255 := c.toNat_lt
    rw [← ht]
    clear ht hx0
    have z0 : ((r0.length : Int) == 0) = false := by rw [beq_eq_false_iff_ne]; omega
    by_cases h19 : 19 < r0.length
    · have HB := Lib.hid (hbad (.inr (.inl h19)))
      have y1 : (19 : Int) < (r0.length : Int) := by omega
      clear hbad hc h19
      go_wp2_with fail
      go_ret2
      exact numA_none (HD.out.trans HB.out)
    have z1 : ¬ (19 : Int) < (r0.length : Int) := by omega
    have HL := Lib.hid (show r0.length ≤ 19 by omega)
    by_cases h48 : c = 48
    · subst h48
      have e48 : (((48 : UInt8).toNat : Int) == 48) = true := by decide
      have h48 : True := trivial
      have HB := Lib.hid (digB_bad (m := true) (t := r0) (.inr (.inr ⟨(by rw [hc]), .inl rfl⟩)))
      clear hbad hc h48
      go_wp2_with fail
      go_ret2
      exact numA_none (HD.out.trans HB.out)
    · have e48 : ((c.toNat : Int) == 48) = false := by
        have : c.toNat ≠ 48 := fun e => h48 (UInt8.toNat_inj.1 e)
        simp; omega
      have HN := Lib.hid (fun (d : Option Nat) (hd : valD r0 0 = d) => digB_val (m := true) (t := r0) (d := d) (fun h => h.elim (fun h => by omega) fun h => h.elim (fun h => by omega) fun h => absurd h.1 (by rw [hc]; simpa using h48)) hd)
      clear hbad hc h48
      go_wp2_with fail
      go_loopg [5, 6] r0.length (fun g u i wr => ∃ (k v : Nat), k ≤ r0.length ∧ g = r0.length - k ∧ u = .int .u64 v ∧ i = .int .i64 k ∧ Hid (valD r0 0 = valD (r0.drop k) v ∧ v < 10 ^ k) ∧ wr = w)
      case atStart => exact ⟨0, 0, by omega, rfl, rfl, rfl, Lib.hid ⟨rfl, by decide⟩, rfl⟩
      case round =>
        obtain ⟨k, v, hk, rfl, rfl, rfl, HV, rfl⟩ := hrel
        have hlen19 := HL.out
        by_cases hlt : k < r0.length
        · obtain ⟨d, hd⟩ : ∃ d, r0[k]? = some d := ⟨_, List.getElem?_eq_getElem hlt⟩
          have hkl : k < (⟨r0.toArray⟩ : ByteArray).size := by rw [hst]; exact hlt
          have hat := str_at hd hkl
          have hd255 := d.toNat_lt
          have hdr : r0.drop k = d :: r0.drop (k + 1) := by
            rw [List.drop_eq_getElem_cons hlt, (List.getElem?_eq_some_iff.1 hd).2]
          have hpw := pow_le19 (k := k) (by omega)
          have hv := HV.out.2
          have hnext : 10 ^ (k + 1) = 10 * 10 ^ k := by rw [Nat.pow_succ]; omega
          by_cases hdig : 48 ≤ d.toNat ∧ d.toNat ≤ 57
          · obtain ⟨x, hx⟩ : ∃ x, d.toNat - 48 = x := ⟨_, rfl⟩
            obtain ⟨v2, hv2⟩ : ∃ v2, 10 * v + x = v2 := ⟨_, rfl⟩
            have HV2 := Lib.hid (show valD r0 0 = valD (r0.drop (k + 1)) v2 ∧ v2 < 10 ^ (k + 1) from ⟨by rw [HV.out.1, hdr, valD_cons, if_pos hdig, hx, hv2], by omega⟩)
            have y1 : IntKind.u64.wrap (10 * (v : Int)) = 10 * (v : Int) := by rw [IntKind.wrap_u64]; omega
            have y2 : IntKind.u8.wrap ((d.toNat : Int) - 48) = (x : Int) := by rw [IntKind.wrap_u8]; omega
            have y3 : IntKind.u64.wrap (x : Int) = (x : Int) := by rw [IntKind.wrap_u64]; omega
            have y4 : IntKind.u64.wrap (10 * (v : Int) + (x : Int)) = (v2 : Int) := by rw [IntKind.wrap_u64]; omega
            have y5 : ¬ ((d.toNat : Int) < 48) := by omega
            have y6 : ¬ ((57 : Int) < (d.toNat : Int)) := by omega
            clear hd hdr hpw hv hnext hdig hx hv2 HV
            go_wp2_with fail
            go_roundg (r0.length - (k + 1))
            case measure => omega
            case rel => exact ⟨k + 1, v2, by omega, rfl, rfl, by go_num, HV2, rfl⟩
          · have HZ := Lib.hid (HN.out none (by rw [HV.out.1, hdr, valD_cons, if_neg hdig]))
            have hdig2 : d.toNat < 48 ∨ 57 < d.toNat := by omega
            clear hd hdr hpw hv hnext hdig HV
            rcases hdig2 with h5 | h5
            · have y5 : ((d.toNat : Int) < 48) := by omega
              clear h5
              go_wp2_with fail
              go_ret2
              exact numA_none (HD.out.trans HZ.out)
            · have y5 : ¬ ((d.toNat : Int) < 48) := by omega
              have y6 : ((57 : Int) < (d.toNat : Int)) := by omega
              clear h5
              go_wp2_with fail
              go_ret2
              exact numA_none (HD.out.trans HZ.out)
        · obtain rfl : k = r0.length := by omega
          have hv := Nat.lt_of_lt_of_le HV.out.2 (pow_le20 hlen19)
          have HE := Lib.hid (HD.out.trans (HN.out (some v) (by rw [HV.out.1, List.drop_length]; rfl)))
          clear HV hlt
          by_cases hv0 : v = 0
          · subst hv0
            clear hv
            go_wp2_with fail
            go_ret2
            rw [show wrap64 (wrap64 (-wrap64 (IntKind.u64.wrap (-1))) - 1) = 0 by decide +kernel]
            exact numA_ok ⟨by decide, by decide⟩ (fun _ => HE.out.trans (digK_t (by decide))) (fun h => by cases h)
          · obtain ⟨u, hu⟩ : ∃ u, v - 1 = u := ⟨_, rfl⟩
            have y1 : IntKind.u64.wrap ((v : Int) - 1) = (u : Int) := by rw [IntKind.wrap_u64]; omega
            by_cases hle : v ≤ 9223372036854775808
            · have y2 : IntKind.i64.wrap (u : Int) = (u : Int) := by rw [IntWalk.i64_in _ ⟨by omega, by omega⟩]
              have y3 : IntKind.i64.wrap (-(u : Int)) = -(u : Int) := by rw [IntWalk.i64_in _ ⟨by omega, by omega⟩]
              have y4 : IntKind.i64.wrap (-(u : Int) - 1) = -(v : Int) := by rw [IntWalk.i64_in _ ⟨by omega, by omega⟩]; omega
              have y5 : ((v : Int) ≤ 9223372036854775808) := by omega
              have HU := Lib.hid (And.intro hu hle)
              clear hv hu hle
              go_wp2_with fail
              go_ret2
              exact numA_ok (by have := HU.out; exact ⟨by omega, by omega⟩) (fun _ => HE.out.trans (digK_t HU.out.2)) (fun h => by simp at h)
            · have y5 : ¬ ((v : Int) ≤ 9223372036854775808) := by omega
              have HU := Lib.hid hle
              clear hv hu hle
              go_wp2_with fail
              go_ret2
              exact numA_ok (inR_wrap _) (fun h => by simp at h) (fun _ => HE.out.trans (digK_tn HU.out))
  · have e45 : ((c0.toNat : Int) == 45) = false := by
      have : c0.toNat ≠ 45 := fun e => h45 (UInt8.toNat_inj.1 e)
      simp; omega
    have HD := Lib.hid (show digA s = digB false s by rw [hs, digA, if_neg h45])
    have hst := str_size s
    have HTL := Lib.hid hl
    have hl0 : (0 : Int) < (r0.length : Int) + 1 := by omega
    clear hs hx0 hls h45
    unfold strV
    go_enter Tryz.func168, Tryz.ntmps168
    go_upto_region 4 with fail
    clear at0 hk0 hsz e45 h0c hl0
    have hbad := digB_bad (m := false) (t := s)
    have hl19 : s.length ≤ 1073741824 := by have := HTL.out; omega
    rcases ht : s with _ | ⟨c, r⟩
    · subst ht
      have HB := Lib.hid (hbad (.inl rfl))
      clear hbad
      go_wp2_with fail
      go_ret2
      exact numA_none (HD.out.trans HB.out)
    have hc : s.head? = some c := by rw [ht]; rfl
    have h0 : 0 < s.length := by rw [ht]; simp
    have hx0 : s[0]? = some c := by rw [ht]; rfl
    have hk0 : 0 < (⟨s.toArray⟩ : ByteArray).size := by rw [hst]; exact h0
    have at0 := str_at hx0 hk0
    have hc255 := c.toNat_lt
    rw [← ht]
    clear ht hx0
    have z0 : ((s.length : Int) == 0) = false := by rw [beq_eq_false_iff_ne]; omega
    by_cases h19 : 19 < s.length
    · have HB := Lib.hid (hbad (.inr (.inl h19)))
      have y1 : (19 : Int) < (s.length : Int) := by omega
      clear hbad hc h19
      go_wp2_with fail
      go_ret2
      exact numA_none (HD.out.trans HB.out)
    have z1 : ¬ (19 : Int) < (s.length : Int) := by omega
    have HL := Lib.hid (show s.length ≤ 19 by omega)
    by_cases h48 : c = 48
    · subst h48
      have e48 : (((48 : UInt8).toNat : Int) == 48) = true := by decide
      have h48 : True := trivial
      by_cases h1 : 1 < s.length
      · have HB := Lib.hid (digB_bad (m := false) (t := s) (.inr (.inr ⟨(by rw [hc]), .inr h1⟩)))
        have y1 : (1 : Int) < (s.length : Int) := by omega
        clear hbad hc h48 h1
        go_wp2_with fail
        go_ret2
        exact numA_none (HD.out.trans HB.out)
      have y1 : ¬ (1 : Int) < (s.length : Int) := by omega
      have HN := Lib.hid (fun (d : Option Nat) (hd : valD s 0 = d) => digB_val (m := false) (t := s) (d := d) (fun h => h.elim (fun h => by omega) fun h => h.elim (fun h => by omega) fun h => h.2.elim (fun h => by cases h) (fun h => by omega)) hd)
      clear h48 h1
      go_wp2_with fail
      go_loopg [5, 6] s.length (fun g u i wr => ∃ (k v : Nat), k ≤ s.length ∧ g = s.length - k ∧ u = .int .u64 v ∧ i = .int .i64 k ∧ Hid (valD s 0 = valD (s.drop k) v ∧ v < 10 ^ k) ∧ wr = w)
      case atStart => exact ⟨0, 0, by omega, rfl, rfl, rfl, Lib.hid ⟨rfl, by decide⟩, rfl⟩
      case round =>
        obtain ⟨k, v, hk, rfl, rfl, rfl, HV, rfl⟩ := hrel
        have hlen19 := HL.out
        by_cases hlt : k < s.length
        · obtain ⟨d, hd⟩ : ∃ d, s[k]? = some d := ⟨_, List.getElem?_eq_getElem hlt⟩
          have hkl : k < (⟨s.toArray⟩ : ByteArray).size := by rw [hst]; exact hlt
          have hat := str_at hd hkl
          have hd255 := d.toNat_lt
          have hdr : s.drop k = d :: s.drop (k + 1) := by
            rw [List.drop_eq_getElem_cons hlt, (List.getElem?_eq_some_iff.1 hd).2]
          have hpw := pow_le19 (k := k) (by omega)
          have hv := HV.out.2
          have hnext : 10 ^ (k + 1) = 10 * 10 ^ k := by rw [Nat.pow_succ]; omega
          by_cases hdig : 48 ≤ d.toNat ∧ d.toNat ≤ 57
          · obtain ⟨x, hx⟩ : ∃ x, d.toNat - 48 = x := ⟨_, rfl⟩
            obtain ⟨v2, hv2⟩ : ∃ v2, 10 * v + x = v2 := ⟨_, rfl⟩
            have HV2 := Lib.hid (show valD s 0 = valD (s.drop (k + 1)) v2 ∧ v2 < 10 ^ (k + 1) from ⟨by rw [HV.out.1, hdr, valD_cons, if_pos hdig, hx, hv2], by omega⟩)
            have y1 : IntKind.u64.wrap (10 * (v : Int)) = 10 * (v : Int) := by rw [IntKind.wrap_u64]; omega
            have y2 : IntKind.u8.wrap ((d.toNat : Int) - 48) = (x : Int) := by rw [IntKind.wrap_u8]; omega
            have y3 : IntKind.u64.wrap (x : Int) = (x : Int) := by rw [IntKind.wrap_u64]; omega
            have y4 : IntKind.u64.wrap (10 * (v : Int) + (x : Int)) = (v2 : Int) := by rw [IntKind.wrap_u64]; omega
            have y5 : ¬ ((d.toNat : Int) < 48) := by omega
            have y6 : ¬ ((57 : Int) < (d.toNat : Int)) := by omega
            clear hd hdr hpw hv hnext hdig hx hv2 HV
            go_wp2_with fail
            go_roundg (s.length - (k + 1))
            case measure => omega
            case rel => exact ⟨k + 1, v2, by omega, rfl, rfl, by go_num, HV2, rfl⟩
          · have HZ := Lib.hid (HN.out none (by rw [HV.out.1, hdr, valD_cons, if_neg hdig]))
            have hdig2 : d.toNat < 48 ∨ 57 < d.toNat := by omega
            clear hd hdr hpw hv hnext hdig HV
            rcases hdig2 with h5 | h5
            · have y5 : ((d.toNat : Int) < 48) := by omega
              clear h5
              go_wp2_with fail
              go_ret2
              exact numA_none (HD.out.trans HZ.out)
            · have y5 : ¬ ((d.toNat : Int) < 48) := by omega
              have y6 : ((57 : Int) < (d.toNat : Int)) := by omega
              clear h5
              go_wp2_with fail
              go_ret2
              exact numA_none (HD.out.trans HZ.out)
        · obtain rfl : k = s.length := by omega
          have hv := Nat.lt_of_lt_of_le HV.out.2 (pow_le20 hlen19)
          have HE := Lib.hid (HD.out.trans (HN.out (some v) (by rw [HV.out.1, List.drop_length]; rfl)))
          clear HV hlt
          by_cases hle : v < 9223372036854775808
          · have y2 : IntKind.i64.wrap (v : Int) = (v : Int) := by rw [IntWalk.i64_in _ ⟨by omega, by omega⟩]
            have y5 : ((v : Int) < 9223372036854775808) := by omega
            have HU := Lib.hid hle
            clear hv hle
            go_wp2_with fail
            go_ret2
            exact numA_ok (by have := HU.out; exact ⟨by omega, by omega⟩) (fun _ => HE.out.trans (digK_f HU.out)) (fun h => by simp at h)
          · have y5 : ¬ ((v : Int) < 9223372036854775808) := by omega
            have HU := Lib.hid hle
            clear hv hle
            go_wp2_with fail
            go_ret2
            exact numA_ok (inR_wrap _) (fun h => by simp at h) (fun _ => HE.out.trans (digK_fn HU.out))
    · have e48 : ((c.toNat : Int) == 48) = false := by
        have : c.toNat ≠ 48 := fun e => h48 (UInt8.toNat_inj.1 e)
        simp; omega
      have HN := Lib.hid (fun (d : Option Nat) (hd : valD s 0 = d) => digB_val (m := false) (t := s) (d := d) (fun h => h.elim (fun h => by omega) fun h => h.elim (fun h => by omega) fun h => absurd h.1 (by rw [hc]; simpa using h48)) hd)
      clear hbad hc h48
      go_wp2_with fail
      go_loopg [5, 6] s.length (fun g u i wr => ∃ (k v : Nat), k ≤ s.length ∧ g = s.length - k ∧ u = .int .u64 v ∧ i = .int .i64 k ∧ Hid (valD s 0 = valD (s.drop k) v ∧ v < 10 ^ k) ∧ wr = w)
      case atStart => exact ⟨0, 0, by omega, rfl, rfl, rfl, Lib.hid ⟨rfl, by decide⟩, rfl⟩
      case round =>
        obtain ⟨k, v, hk, rfl, rfl, rfl, HV, rfl⟩ := hrel
        have hlen19 := HL.out
        by_cases hlt : k < s.length
        · obtain ⟨d, hd⟩ : ∃ d, s[k]? = some d := ⟨_, List.getElem?_eq_getElem hlt⟩
          have hkl : k < (⟨s.toArray⟩ : ByteArray).size := by rw [hst]; exact hlt
          have hat := str_at hd hkl
          have hd255 := d.toNat_lt
          have hdr : s.drop k = d :: s.drop (k + 1) := by
            rw [List.drop_eq_getElem_cons hlt, (List.getElem?_eq_some_iff.1 hd).2]
          have hpw := pow_le19 (k := k) (by omega)
          have hv := HV.out.2
          have hnext : 10 ^ (k + 1) = 10 * 10 ^ k := by rw [Nat.pow_succ]; omega
          by_cases hdig : 48 ≤ d.toNat ∧ d.toNat ≤ 57
          · obtain ⟨x, hx⟩ : ∃ x, d.toNat - 48 = x := ⟨_, rfl⟩
            obtain ⟨v2, hv2⟩ : ∃ v2, 10 * v + x = v2 := ⟨_, rfl⟩
            have HV2 := Lib.hid (show valD s 0 = valD (s.drop (k + 1)) v2 ∧ v2 < 10 ^ (k + 1) from ⟨by rw [HV.out.1, hdr, valD_cons, if_pos hdig, hx, hv2], by omega⟩)
            have y1 : IntKind.u64.wrap (10 * (v : Int)) = 10 * (v : Int) := by rw [IntKind.wrap_u64]; omega
            have y2 : IntKind.u8.wrap ((d.toNat : Int) - 48) = (x : Int) := by rw [IntKind.wrap_u8]; omega
            have y3 : IntKind.u64.wrap (x : Int) = (x : Int) := by rw [IntKind.wrap_u64]; omega
            have y4 : IntKind.u64.wrap (10 * (v : Int) + (x : Int)) = (v2 : Int) := by rw [IntKind.wrap_u64]; omega
            have y5 : ¬ ((d.toNat : Int) < 48) := by omega
            have y6 : ¬ ((57 : Int) < (d.toNat : Int)) := by omega
            clear hd hdr hpw hv hnext hdig hx hv2 HV
            go_wp2_with fail
            go_roundg (s.length - (k + 1))
            case measure => omega
            case rel => exact ⟨k + 1, v2, by omega, rfl, rfl, by go_num, HV2, rfl⟩
          · have HZ := Lib.hid (HN.out none (by rw [HV.out.1, hdr, valD_cons, if_neg hdig]))
            have hdig2 : d.toNat < 48 ∨ 57 < d.toNat := by omega
            clear hd hdr hpw hv hnext hdig HV
            rcases hdig2 with h5 | h5
            · have y5 : ((d.toNat : Int) < 48) := by omega
              clear h5
              go_wp2_with fail
              go_ret2
              exact numA_none (HD.out.trans HZ.out)
            · have y5 : ¬ ((d.toNat : Int) < 48) := by omega
              have y6 : ((57 : Int) < (d.toNat : Int)) := by omega
              clear h5
              go_wp2_with fail
              go_ret2
              exact numA_none (HD.out.trans HZ.out)
        · obtain rfl : k = s.length := by omega
          have hv := Nat.lt_of_lt_of_le HV.out.2 (pow_le20 hlen19)
          have HE := Lib.hid (HD.out.trans (HN.out (some v) (by rw [HV.out.1, List.drop_length]; rfl)))
          clear HV hlt
          by_cases hle : v < 9223372036854775808
          · have y2 : IntKind.i64.wrap (v : Int) = (v : Int) := by rw [IntWalk.i64_in _ ⟨by omega, by omega⟩]
            have y5 : ((v : Int) < 9223372036854775808) := by omega
            have HU := Lib.hid hle
            clear hv hle
            go_wp2_with fail
            go_ret2
            exact numA_ok (by have := HU.out; exact ⟨by omega, by omega⟩) (fun _ => HE.out.trans (digK_f HU.out)) (fun h => by simp at h)
          · have y5 : ¬ ((v : Int) < 9223372036854775808) := by omega
            have HU := Lib.hid hle
            clear hv hle
            go_wp2_with fail
            go_ret2
            exact numA_ok (inR_wrap _) (fun h => by simp at h) (fun _ => HE.out.trans (digK_fn HU.out))
set_option maxRecDepth 100000 in
theorem numberA_any (s : Bs) (lo hi : Int) (w : World) (hl : s.length ≤ 1073741824) :
    Calls Tryz.prog 145 #[strV s, .int .i64 lo, .int .i64 hi] w fun e w' => NumA (numB lo hi s) w e w' := by
  have h := digits_any s w hl
  unfold strV at h ⊢
  go_enter Tryz.func145, Tryz.ntmps145
  go_wp2_with fail
  (refine h.mono ?_)
  rintro e w' ⟨z, g, rfl, hz, hg, hv, rfl⟩
  cases g with
  | false =>
    have HN := Lib.hid (show numB lo hi s = none by
      unfold numB
      rcases hs : numV s with _ | t
      · rfl
      · rw [hs] at hg; cases hg)
    have HZ := Lib.hid hz
    clear hz hg hv h
    go_wp2_with fail
    go_ret2
    exact numA_ok HZ.out (fun h => by cases h) (fun _ => HN.out)
  | true =>
    obtain ⟨t, ht⟩ := Option.isSome_iff_exists.1 hg.symm
    obtain rfl := hv t ht
    have HZ := Lib.hid (And.intro hz ht)
    clear hz hg hv ht h
    by_cases h1 : lo ≤ z
    · by_cases h2 : z ≤ hi
      · have HH := Lib.hid (And.intro h1 h2)
        go_wp2_with fail
        go_ret2
        exact numA_ok HZ.out.1 (fun _ => by unfold numB; rw [HZ.out.2]; simp only; rw [if_pos HH.out]) (fun h => by cases h)
      · have HH := Lib.hid h2
        go_wp2_with fail
        go_ret2
        exact numA_ok HZ.out.1 (fun h => by have := HH.out; simp at h; omega) (fun _ => by unfold numB; rw [HZ.out.2]; simp only; rw [if_neg (by have := HH.out; omega)])
    · have HH := Lib.hid h1
      go_wp2_with fail
      go_ret2
      exact numA_ok HZ.out.1 (fun h => by cases h) (fun _ => by unfold numB; rw [HZ.out.2]; simp only; rw [if_neg (by have := HH.out; omega)])
end Go.Proofs.YtobplngonkdbpaaGreatDoor.D

/- AnD -/
namespace Go.Proofs.YtobplngonkdbpaaGreatDoor.D
open Go.RowKit
open Go.Proofs.YtobplngonkdbpaaGreatDoor.B
set_option linter.unusedVariables false
set_option linter.unusedSimpArgs false

/-- Texts of one's own, in a world that went on from w0. -/
def OS (w0 : World) (W : World) (u : Value) (b : List Bs) : Prop := W.ownsRow w0.heap.size 9 1 u b.length (envC b) ∧ Below w0.heap.size w0 W
theorem OS.nil (w : World) : OS w w (.slice none 0 0) [] := ⟨World.ownsRow_nil _ _ _ _, Below.refl _ _⟩
theorem OS.on {w0 W W' : World} {u : Value} {b : List Bs} (h : OS w0 W u b) (hb : Below W.heap.size W W') : OS w0 W' u b := ⟨own_below h.1 hb, bl h.2 hb⟩
theorem OS.app {w0 W W1 W2 : World} {u v : Value} {b : List Bs} {c : Bs} (h : OS w0 W u b) (h1 : Below W.heap.size W W1) (ho : W2.ownsRow w0.heap.size 9 1 v (b.length + 1) (envC b ++ [.string ⟨c.toArray⟩])) (hg : W1.grownBy W2 u.ownBlock) : OS w0 W2 v (b ++ [c]) := by
  refine ⟨by rw [List.length_append, envC_app]; exact ho, (bl h.2 h1).grown hg (by have := h1.size; have := h.2.size; omega) fun k hk => (h.1.lt k hk).1⟩

/-- A part's bytes, as far as they are looked at: no point among them. -/
def inPart (s : Bs) (f i : Nat) : Prop := ∀ x ∈ (s.drop f).take (i - f), x ≠ 46
theorem inPart_self (s : Bs) (f : Nat) : inPart s f f := by intro x hx; simp at hx
theorem inPart_next {s : Bs} {f i : Nat} {c : UInt8} (h : inPart s f i) (hf : f ≤ i) (hc : s[i]? = some c) (hne : c ≠ 46) : inPart s f (i + 1) := by
  intro x hx
  rw [show i + 1 - f = (i - f) + 1 by omega, List.take_add_one, List.getElem?_drop, show f + (i - f) = i by omega, hc] at hx
  rcases List.mem_append.1 hx with hx | hx
  · exact h x hx
  · simp at hx; rw [hx]; exact hne
theorem split_here {s : Bs} {f i : Nat} (h : inPart s f i) (hf : f ≤ i) (hc : s[i]? = some 46) : splitC 46 (s.drop f) = (s.drop f).take (i - f) :: splitC 46 (s.drop (i + 1)) := by
  have hl : i < s.length := (List.getElem?_eq_some_iff.1 hc).1
  have e : s.drop f = (s.drop f).take (i - f) ++ 46 :: s.drop (i + 1) := by
    conv => lhs; rw [← List.take_append_drop (i - f) (s.drop f)]
    rw [List.drop_drop, show f + (i - f) = i by omega, List.drop_eq_getElem_cons hl, (List.getElem?_eq_some_iff.1 hc).2]
  conv => lhs; rw [e]
  exact splitC_word 46 _ _ h
theorem split_end {s : Bs} {f : Nat} (h : inPart s f s.length) : splitC 46 (s.drop f) = [(s.drop f).take (s.length - f)] := by
  have e : (s.drop f).take (s.length - f) = s.drop f := List.take_of_length_le (by simp)
  rw [e]
  refine splitC_last 46 _ ?_
  intro x hx
  exact h x (by rw [e]; exact hx)

set_option maxRecDepth 100000 in
set_option maxHeartbeats 4000000 in
theorem splitA_any (s : Bs) (w : World) (hl : s.length ≤ 1073741824) :
    Calls Tryz.prog 170 #[strV s] w fun e w' => ∃ v, e = .returned v ∧ OS w w' v (splitC 46 s) := by
  obtain ⟨i0, hi0, hz0, hz1, hz2⟩ := info_parts info9
  have hsz := str_size s
  unfold strV
  go_enter Tryz.func170, Tryz.ntmps170
  go_wp2_with fail
  go_loopg [3, 4, 5] (s.length + 1) (fun g u a b wr => ∃ (ws : List Bs) (f i : Nat), g = s.length + 1 - i ∧ a = .int .i64 f ∧ b = .int .i64 i ∧ f ≤ i ∧ i ≤ s.length + 1 ∧ ws.length ≤ i ∧ Hid (OS w wr u ws ∧
    (i ≤ s.length → ws ++ splitC 46 (s.drop f) = splitC 46 s ∧ inPart s f i) ∧ (i = s.length + 1 → ws = splitC 46 s)))
  case atStart => exact ⟨[], 0, 0, rfl, rfl, rfl, Nat.le_refl 0, by omega, Nat.le_refl 0, Lib.hid ⟨OS.nil w, fun _ => ⟨rfl, inPart_self s 0⟩, fun h => by omega⟩⟩
  case round =>
    obtain ⟨ws, f, i, rfl, rfl, rfl, hfi, hi, hwl, HP⟩ := hrel
    obtain ⟨AV, cV, rfl, hc1, hc2⟩ := own_shape HP.out.1.1
    by_cases hend : i = s.length + 1
    · have HE := Lib.hid (HP.out.2.2 hend)
      have g1 : ¬ ((i : Int) ≤ (s.length : Int)) := by omega
      clear hend
      go_wp2_with fail
      go_ret
      exact ⟨_, rfl, by rw [← HE.out]; exact HP.out.1⟩
    have hil : i ≤ s.length := by omega
    have g1 : ((i : Int) ≤ (s.length : Int)) := by omega
    obtain ⟨q1, q2⟩ := HP.out.2.1 hil
    have hext := ext_at s f i
    obtain ⟨p, hp⟩ : ∃ p, (s.drop f).take (i - f) = p := ⟨_, rfl⟩
    rw [hp] at hext
    have gf : ((f : Int) ≤ (i : Int)) := by omega
    by_cases hlast : i = s.length
    · have g2 : ((i : Int) == (s.length : Int)) = true := by simp; omega
      have HE := Lib.hid (show ws ++ [p] = splitC 46 s by
        rw [← q1, ← hp]; subst hlast; rw [split_end q2])
      have HI := Lib.hid hlast
      clear q1 q2 hp hend hlast
      go_wp2_with (at_builtin; refine wpList_append_sl _ rfl (.tmp 22) (.tmp 27) _ rfl w.heap.size 9 i0 _ 1 16 Tryz.underlying25 hi0 hz0 hz1 hz2 rfl (by omega) _ _ _ rfl (HP.out.1.on (bal b0 _)).1 (wr.heap.size + 1) (some ⟨wr.heap.size, 0, none⟩) 1 1 [.string ⟨p.toArray⟩] rfl (Sl.one wr _ _) (fun u hu => by rw [List.mem_singleton.1 hu]; rfl) (by unfold maxLen; omega) (by omega) (by have := HP.out.1.2.size; simp only [World.size_alloc]; omega) ?_; intro v' w2 hown2 hgrow _; have HO2 := Lib.hid (HP.out.1.app (c := p) (bal b0 _) hown2 hgrow); clear hown2 hgrow)
      go_roundg (s.length + 1 - (i + 1))
      case measure => omega
      case rel => exact ⟨ws ++ [p], i + 1, i + 1, rfl, by go_num, by go_num, Nat.le_refl _, by omega, by rw [List.length_append, List.length_singleton]; omega, Lib.hid ⟨HO2.out, fun h => by have := HI.out; omega, fun _ => HE.out⟩⟩
    · have hlt : i < s.length := by omega
      have g2 : ((i : Int) == (s.length : Int)) = false := by simp; omega
      have g3 : ((i : Int) < (s.length : Int)) := by omega
      obtain ⟨c, hc⟩ : ∃ c, s[i]? = some c := ⟨_, List.getElem?_eq_getElem hlt⟩
      have hkl : i < (⟨s.toArray⟩ : ByteArray).size := by rw [hsz]; exact hlt
      have hat := str_at hc hkl
      have hc255 := c.toNat_lt
      by_cases h46 : c = 46
      · subst h46
        have e46 : (((46 : UInt8).toNat : Int) == 46) = true := by decide
        have HE := Lib.hid (show ws ++ [p] ++ splitC 46 (s.drop (i + 1)) = splitC 46 s by
          rw [← q1, ← hp, split_here q2 hfi hc]; simp)
        clear q1 q2 hp hend hlast hc
        go_wp2_with (at_builtin; refine wpList_append_sl _ rfl (.tmp 22) (.tmp 27) _ rfl w.heap.size 9 i0 _ 1 16 Tryz.underlying25 hi0 hz0 hz1 hz2 rfl (by omega) _ _ _ rfl (HP.out.1.on (bal b0 _)).1 (wr.heap.size + 1) (some ⟨wr.heap.size, 0, none⟩) 1 1 [.string ⟨p.toArray⟩] rfl (Sl.one wr _ _) (fun u hu => by rw [List.mem_singleton.1 hu]; rfl) (by unfold maxLen; omega) (by omega) (by have := HP.out.1.2.size; simp only [World.size_alloc]; omega) ?_; intro v' w2 hown2 hgrow _; have HO2 := Lib.hid (HP.out.1.app (c := p) (bal b0 _) hown2 hgrow); clear hown2 hgrow)
        go_roundg (s.length + 1 - (i + 1))
        case measure => omega
        case rel => exact ⟨ws ++ [p], i + 1, i + 1, rfl, by go_num, by go_num, Nat.le_refl _, by omega, by rw [List.length_append, List.length_singleton]; omega, Lib.hid ⟨HO2.out, fun h => ⟨HE.out, inPart_self _ _⟩, fun h => by omega⟩⟩
      · have e46 : ((c.toNat : Int) == 46) = false := by
          have : c.toNat ≠ 46 := fun e => h46 (UInt8.toNat_inj.1 e)
          simp; omega
        have HE := Lib.hid (And.intro q1 (inPart_next q2 hfi hc h46))
        clear q1 q2 hp hend hlast hc h46 hext
        go_wp2_with fail
        go_roundg (s.length + 1 - (i + 1))
        case measure => omega
        case rel => exact ⟨ws, f, i + 1, rfl, rfl, by go_num, by omega, by omega, by omega, Lib.hid ⟨HP.out.1, fun h => HE.out, fun h => by omega⟩⟩
end Go.Proofs.YtobplngonkdbpaaGreatDoor.D

/- CdX -/
namespace Go.Proofs.YtobplngonkdbpaaGreatDoor.D
open Go Go.Lib
set_option linter.unusedVariables false
set_option linter.unusedSimpArgs false

theorem index1 (c : UInt8) : ∀ l : Bs, Lib.index l [c] = (match idxB c l with | some n => (n : Int) | none => -1)
  | [] => rfl
  | x :: r => by
    rw [Lib.index, idxB, index1 c r]
    have hp : List.isPrefixOf [c] (x :: r) = true ↔ x = c := by
      simp only [List.isPrefixOf, Bool.and_true, beq_iff_eq]
      exact ⟨fun h => h.symm, fun h => h.symm⟩
    by_cases h : x = c
    · rw [if_pos h, if_pos (hp.2 h)]; rfl
    · rw [if_neg h, if_neg (fun h2 => h (hp.1 h2))]
      rcases idxB c r with _ | n
      · rfl
      · simp only [Option.map_some]
        rw [if_neg (by simp only [beq_iff_eq]; omega)]; rfl
theorem splitC_none {c : UInt8} : ∀ s : Bs, idxB c s = none → splitC c s = [s]
  | [], _ => rfl
  | x :: r, h => by
    rw [idxB] at h
    split at h
    · cases h
    · rename_i hx
      rw [splitC, if_neg hx, splitC_none r (by simpa using h)]
theorem splitC_some {c : UInt8} : ∀ (s : Bs) (n : Nat), idxB c s = some n → splitC c s = s.take n :: splitC c (s.drop (n + 1))
  | [], n, h => by simp [idxB] at h
  | x :: r, n, h => by
    rw [idxB] at h
    split at h
    · rename_i hx
      injection h with h
      subst h
      rw [splitC, if_pos hx]; rfl
    · rename_i hx
      obtain ⟨m, hm, rfl⟩ := Option.map_eq_some_iff.1 h
      rw [splitC, if_neg hx, splitC_some r m hm]; rfl
theorem splitK_C (c : UInt8) : ∀ (fuel : Nat) (s : Bs), s.length < fuel → splitK [c] 0 (countFrom [c] fuel s) s = splitC c s
  | 0, s, h => by omega
  | fuel + 1, s, h => by
    rw [countFrom, index1]
    rcases hi : idxB c s with _ | n
    · simp only [beq_self_eq_true, if_true]
      rw [splitC_none s hi]; rfl
    · simp only
      have hne : ((n : Int) == -1) = false := by simp only [beq_eq_false_iff_ne, ne_eq]; omega
      rw [hne]
      simp only [Bool.false_eq_true, if_false]
      have hlt := (idxB_lt s n hi).1
      rw [Nat.add_comm 1, splitK, index1, hi]
      simp only
      rw [hne]
      simp only [Bool.false_eq_true, if_false, Int.toNat_natCast, List.length_singleton, Nat.add_zero]
      rw [splitK_C c fuel _ (by rw [List.length_drop]; omega), splitC_some s n hi]
theorem split_eq (c : UInt8) (s : Bs) : splitK [c] 0 (Lib.count s [c]) s = splitC c s := splitK_C c _ s (by omega)
theorem lineC_idx : ∀ t : Bs, lineC t = (idxB 10 t).map fun n => (t.take n, t.drop (n + 1))
  | [] => rfl
  | x :: r => by
    rw [lineC, idxB]
    by_cases h : x = 10
    · subst h; simp
    · rw [if_neg (show ¬ x.toNat = 10 from fun e => h (UInt8.toNat_inj.1 e)), if_neg h, lineC_idx r]
      rcases idxB 10 r with _ | n
      · rfl
      · rfl
theorem cut_line (t : Bs) : Lib.cut t [10] = (match lineC t with | some p => (p.1, p.2, true) | none => (t, [], false)) := by
  unfold Lib.cut
  rw [lineC_idx, index1]
  rcases idxB 10 t with _ | n
  · rfl
  · simp only [Option.map_some]
    rw [if_pos (by omega)]
    simp
/-- The split's pieces fit in what was split. -/
theorem splitC_len (c : UInt8) (s : Bs) : ∀ w ∈ splitC c s, w.length ≤ s.length := by
  induction s with
  | nil => simp [splitC]
  | cons x r ih =>
    intro w hw
    rw [splitC] at hw
    split at hw
    · rcases List.mem_cons.1 hw with rfl | hw
      · simp
      · have := ih w hw; rw [List.length_cons]; omega
    · split at hw
      · rw [List.mem_singleton.1 hw]; simp
      · rename_i v vs hv
        rcases List.mem_cons.1 hw with rfl | hw
        · have := ih v (by rw [hv]; simp); rw [List.length_cons, List.length_cons]; omega
        · have := ih w (by rw [hv]; simp [hw]); rw [List.length_cons]; omega
theorem splitC_count (c : UInt8) (s : Bs) : (splitC c s).length ≤ s.length + 1 := by
  induction s with
  | nil => simp [splitC]
  | cons x r ih =>
    rw [splitC]
    split
    · simp; omega
    · split
      · simp
      · rename_i v vs hv
        rw [hv] at ih
        simp only [List.length_cons] at ih ⊢; omega
end Go.Proofs.YtobplngonkdbpaaGreatDoor.D

/- CeV -/
namespace Go.Proofs.YtobplngonkdbpaaGreatDoor.D
open Go.RowKit
open Go.Proofs.YtobplngonkdbpaaGreatDoor.B
set_option linter.unusedVariables false
set_option linter.unusedSimpArgs false

/-- A whole row stored, in a drawn region. -/
theorem step_store_row {P : Program} {ops : Array Oper} {o : Oper} {a : Act} {w : World} {K : Act → World → Prop} {Q : Exit → Act → World → Prop} {E : Prop} (hgd : o.guard = none) (ty : TypeId) (x y : Operand) (ho : o.op = .store ty x y)
    (g : Nat) (cells : Array Value) (hx : a.eval x = .pointer (some ⟨g, 0, none⟩)) (hy : a.eval y = .agg cells)
    (t : TypeId) (old : Array Value) (hg : w.heap[g]? = some (.cells old t (0, 0))) (hi : (P.info? ty).map (·.size) = some cells.size)
    (hold : old.size = cells.size) (h1 : cells.all (·.oneCell') = true)
    (h : K (a.put o.dst undef) (w.setRow g cells)) : if Region.wanted o (yielded ops a.tmps) = true then Oper.wp P o a w K Q else E := by
  have hw : Region.wanted o (yielded ops a.tmps) = true := by simp [Region.wanted, hgd]
  rw [if_pos hw]
  exact wp_store_row ty x y ho g cells hx hy t old hg hi hold h1 h
theorem but_setRow {C : Nat → Prop} {a w : World} (h : But C a w) {b : Nat} (hb : C b ∨ a.heap.size ≤ b) (cs : Array Value) : But C a (w.setRow b cs) := by
  refine ⟨h.os, h.tape, h.output, by simpa using h.size, fun k hk hc => ?_⟩
  rw [← h.block k hk hc]
  refine setRow_other w b k cs fun e => ?_
  subst e
  rcases hb with hb | hb
  · exact hc hb
  · omega
theorem but_weak {C D : Nat → Prop} {a w : World} (h : But C a w) (hd : ∀ k, k < a.heap.size → C k → D k) : But D a w := ⟨h.os, h.tape, h.output, h.size, fun k hk hn => h.block k hk fun hc => hn (hd k hk hc)⟩
theorem but_next {cf : Nat} {a b c : World} (h : But (fun k => k = cf) a b) (k : But (fun k => k = cf) b c) : But (fun k => k = cf) a c := h.trans k fun _ _ e => e

theorem wrap_i8 (n : Int) : -128 ≤ IntKind.i8.wrap n ∧ IntKind.i8.wrap n ≤ 127 := by simp [IntKind.wrap, IntKind.bits, IntKind.signed]; omega
theorem wrap_u8 (n : Int) : 0 ≤ IntKind.u8.wrap n ∧ IntKind.u8.wrap n ≤ 255 := by simp [IntKind.wrap, IntKind.bits, IntKind.signed]; omega

theorem split_c (s : Bs) (c : UInt8) (w : World) (hl : s.length ≤ 1073741824) (hg : Gl w) :
    Calls Tryz.prog 136 #[strV s, strV [c]] w fun e w' => e = .returned (.slice (some ⟨w.heap.size, 0, none⟩) (splitC c s).length (splitC c s).length) ∧ w' = w.alloc (.cells ((splitC c s).map strV).toArray 9) := by
  obtain ⟨m, hm⟩ := hg.maxl
  have hz := str_size s
  have h := Tryz.strings_Split ⟨s.toArray⟩ ⟨#[c]⟩ m w (by omega) hm (show 1 ≤ ByteArray.size ⟨#[c]⟩ from Nat.le_refl 1)
  have e1 : (Lib.splitB ⟨#[c]⟩ 0 (Lib.countB ⟨s.toArray⟩ ⟨#[c]⟩) ⟨s.toArray⟩).map (·.data.toList) = splitC c s := by
    rw [Lib.splitB_data]; exact split_eq c s
  have e2 := Lib.splitB_all ⟨#[c]⟩ (show 1 ≤ ByteArray.size ⟨#[c]⟩ from Nat.le_refl 1) 0 _ ⟨s.toArray⟩ rfl
  have e3 : (Lib.splitB ⟨#[c]⟩ 0 (Lib.countB ⟨s.toArray⟩ ⟨#[c]⟩) ⟨s.toArray⟩).map Value.string = (splitC c s).map strV := by rw [← e1, List.map_map]; rfl
  have e4 : (splitC c s).length = Lib.countB ⟨s.toArray⟩ ⟨#[c]⟩ + 1 := by rw [← e1, List.length_map, e2]
  rw [e3, ← e4] at h
  exact h

/-- A byte of a word. -/
theorem head_c (cf bx : Nat) (s : Bs) (g : Bool) (w : World) (hl : s.length ≤ 1073741824) (hg : Gl w) (hb : Blk w cf 141 #[.bool g]) (h8 : 8 ≤ cf) (hx : w.cell? ⟨bx, 0, none⟩ = some (.pointer (some ⟨cf, 0, none⟩))) :
    Calls Tryz.prog 137 #[strV s, .pointer (some ⟨bx, 0, none⟩)] w fun e w' =>
      ∃ n, e = .returned (.int .u8 (IntKind.u8.wrap n)) ∧ inR n ∧ (∀ v, numB 0 255 s = some v → n = v) ∧ Blk w' cf 141 #[.bool (g && (numB 0 255 s).isSome)] ∧ But (fun k => k = cf) w w' := by
  have h := number_c cf s 0 255 g w hl hg hb h8
  unfold NumQ at h
  clear hg hb
  go_enter Tryz.func137, Tryz.ntmps137
  go_wp2_with fail
  (refine h.mono ?_); rintro ev w1 ⟨n, rfl, hn⟩
  go_wp2_with fail
  go_ret
  exact ⟨n, rfl, hn⟩
end Go.Proofs.YtobplngonkdbpaaGreatDoor.D
